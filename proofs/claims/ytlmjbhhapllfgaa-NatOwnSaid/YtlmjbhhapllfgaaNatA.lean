/- Numbers by their values. -/
import Derived.Test.YtlmjbhhapllfgaaAx1
import Derived.Test.YtlmjbhhapllfgaaAx10
import Derived.Test.YtlmjbhhapllfgaaAx11
import Derived.Test.YtlmjbhhapllfgaaAx2
import Derived.Test.YtlmjbhhapllfgaaAx3
import Derived.Test.YtlmjbhhapllfgaaAx4
import Derived.Test.YtlmjbhhapllfgaaWWords
import Derived.Test.YtlmjbhhapllfgaaWMore
import Derived.Laws.BitsLemmas
namespace Go.Proofs.Ytlmjbhhapllfgaa.V
open Go.RowKit Go.Proofs.YtlmjbhhapllfgaaW.PrintWords Go.Proofs.YtlmjbhhapllfgaaW.PrintLast
set_option linter.unusedVariables false
set_option linter.unusedSimpArgs false

def W (l : List Int) : Prop := ∀ x ∈ l, 0 ≤ x ∧ x < 4294967296
def val : List Int → Nat
  | [] => 0
  | x :: l => x.toNat + 4294967296 * val l
def Canon (l : List Int) : Prop := W l ∧ (0 < l.length → rd l ((l.length : Int) - 1) ≠ 0)
def nm (n : Nat) : List Int := if n = 0 then [] else ((n % 4294967296 : Nat) : Int) :: nm (n / 4294967296)
termination_by n
decreasing_by omega

theorem W_nil : W [] := by intro x h; cases h
theorem W_cons {x : Int} {l : List Int} (h : W (x :: l)) : (0 ≤ x ∧ x < 4294967296) ∧ W l := ⟨h x (by simp), fun y hy => h y (by simp [hy])⟩
theorem W_replicate (n : Nat) : W (List.replicate n 0) := by
  intro x h
  have := (List.mem_replicate.mp h).2
  omega
theorem W_take {l : List Int} (h : W l) (n : Nat) : W (l.take n) := fun x hx => h x (List.mem_of_mem_take hx)
theorem W_set {l : List Int} (h : W l) (q : Nat) (v : Int) (h0 : 0 ≤ v) (h1 : v < 4294967296) : W (l.set q v) := by
  intro x hx
  rcases List.mem_or_eq_of_mem_set hx with hx | hx
  · exact h x hx
  · omega
theorem val_replicate (n : Nat) : val (List.replicate n 0) = 0 := by
  induction n with
  | zero => rfl
  | succ n ih => simp [List.replicate_succ, val, ih]
theorem pow_succ' (q : Nat) : (4294967296 : Nat) ^ (q + 1) = 4294967296 * 4294967296 ^ q := by rw [Nat.pow_succ, Nat.mul_comm]
theorem pow_pos' (q : Nat) : 0 < (4294967296 : Nat) ^ q := Nat.pow_pos (by omega)
theorem val_lt {l : List Int} (h : W l) : val l < 4294967296 ^ l.length := by
  induction l with
  | nil => simp [val]
  | cons x l ih =>
    obtain ⟨h1, h2⟩ := W_cons h
    have := ih h2
    simp only [val, List.length_cons, pow_succ']
    omega
theorem rd_zero (x : Int) (l : List Int) : rd (x :: l) 0 = x := rfl
theorem rd_nat (l : List Int) (j : Nat) (h : j < l.length) : rd l (j : Int) = l[j] := by simp [rd, h]
theorem rd_mem {l : List Int} (j : Nat) (h : j < l.length) : rd l (j : Int) ∈ l := by rw [rd_nat l j h]; exact List.getElem_mem h
theorem rd_int {l : List Int} (i : Int) (h0 : 0 ≤ i) (h : i < l.length) : rd l i ∈ l := by
  have := rd_mem (l := l) i.toNat (by omega)
  rwa [show ((i.toNat : Nat) : Int) = i by omega] at this
theorem rd_W {l : List Int} (hw : W l) (i : Int) (h0 : 0 ≤ i) (h : i < l.length) : 0 ≤ rd l i ∧ rd l i < 4294967296 := hw _ (rd_int i h0 h)
theorem rd_cons_succ (x : Int) (l : List Int) (j : Nat) : rd (x :: l) ((j + 1 : Nat) : Int) = rd l (j : Int) := by simp [rd]
theorem rd_val {l : List Int} (hw : W l) (j : Nat) (h : j < l.length) : rd l (j : Int) = ((val l / 4294967296 ^ j % 4294967296 : Nat) : Int) := by
  induction l generalizing j with
  | nil => simp at h
  | cons x l ih =>
    obtain ⟨h1, h2⟩ := W_cons hw
    cases j with
    | zero =>
      show x = _
      simp only [val, Nat.pow_zero, Nat.div_one]
      omega
    | succ j =>
      rw [rd_cons_succ, ih h2 j (by simpa using h), pow_succ', ← Nat.div_div_eq_div_mul]
      congr 3
      simp only [val]
      omega
theorem val_over {l : List Int} (hw : W l) (j : Nat) (h : l.length ≤ j) : val l / 4294967296 ^ j = 0 :=
  Nat.div_eq_of_lt (Nat.lt_of_lt_of_le (val_lt hw) (Nat.pow_le_pow_right (by omega) h))
theorem val_set (l : List Int) (q : Nat) (v : Int) (h : q < l.length) : val (l.set q v) + 4294967296 ^ q * (rd l (q : Int)).toNat = val l + 4294967296 ^ q * v.toNat := by
  induction l generalizing q with
  | nil => simp at h
  | cons x l ih =>
    cases q with
    | zero => simp only [List.set_cons_zero, val, Nat.pow_zero, Nat.one_mul, Int.natCast_zero, rd_zero]; omega
    | succ q =>
      have := ih q (by simpa using h)
      rw [rd_cons_succ, List.set_cons_succ, pow_succ', Nat.mul_assoc, Nat.mul_assoc]
      simp only [val]
      generalize 4294967296 ^ q * (rd l (q : Int)).toNat = a at this ⊢
      generalize 4294967296 ^ q * v.toNat = b at this ⊢
      omega
theorem val_append (a b : List Int) : val (a ++ b) = val a + 4294967296 ^ a.length * val b := by
  induction a with
  | nil => simp [val]
  | cons x a ih => simp only [List.cons_append, val, ih, List.length_cons, pow_succ', Nat.mul_add, Nat.mul_assoc]; omega
theorem val_take {l : List Int} (hw : W l) (n : Nat) : val (l.take n) = val l % 4294967296 ^ n := by
  have e := val_append (l.take n) (l.drop n)
  rw [List.take_append_drop] at e
  have w := val_lt (W_take hw n)
  by_cases h : n ≤ l.length
  · rw [List.length_take, Nat.min_eq_left h] at e w
    rw [e, Nat.add_mul_mod_self_left, Nat.mod_eq_of_lt w]
  · rw [List.take_of_length_le (by omega)] at w ⊢
    rw [Nat.mod_eq_of_lt (Nat.lt_of_lt_of_le w (Nat.pow_le_pow_right (by omega) (by omega)))]
theorem nm_zero : nm 0 = [] := by rw [nm]; simp
theorem nm_pos {n : Nat} (h : n ≠ 0) : nm n = ((n % 4294967296 : Nat) : Int) :: nm (n / 4294967296) := by rw [nm]; simp [h]
theorem nm_W (n : Nat) : W (nm n) := by
  induction n using Nat.strongRecOn with
  | _ n ih =>
    by_cases h : n = 0
    · subst h; rw [nm_zero]; exact W_nil
    · rw [nm_pos h]
      intro x hx
      rcases List.mem_cons.mp hx with rfl | hx
      · omega
      · exact ih (n / 4294967296) (by omega) x hx
theorem val_nm (n : Nat) : val (nm n) = n := by
  induction n using Nat.strongRecOn with
  | _ n ih =>
    by_cases h : n = 0
    · subst h; rw [nm_zero]; rfl
    · rw [nm_pos h, val, ih (n / 4294967296) (by omega)]
      omega
theorem canon_cons {x : Int} {l : List Int} (h : Canon (x :: l)) (hl : l ≠ []) : Canon l := by
  refine ⟨(W_cons h.1).2, fun hp => ?_⟩
  have := h.2 (by simp)
  simp only [List.length_cons] at this
  rw [show (((l.length + 1 : Nat) : Int) - 1) = (((l.length - 1) + 1 : Nat) : Int) by omega, rd_cons_succ] at this
  rwa [show ((l.length : Int) - 1) = ((l.length - 1 : Nat) : Int) by omega]
theorem canon_pos {l : List Int} (h : Canon l) (hl : l ≠ []) : 4294967296 ^ (l.length - 1) ≤ val l := by
  induction l with
  | nil => exact absurd rfl hl
  | cons x l ih =>
    obtain ⟨h1, h2⟩ := W_cons h.1
    cases l with
    | nil =>
      have := h.2 (by simp)
      simp only [List.length_cons, List.length_nil] at this
      have h3 : x ≠ 0 := by simpa [rd] using this
      simp only [val, List.length_cons, List.length_nil]
      simp
      omega
    | cons y l =>
      have := ih (canon_cons h (by simp)) (by simp)
      simp only [List.length_cons, Nat.add_sub_cancel] at this ⊢
      rw [pow_succ', val]
      omega
theorem canon_eq {l : List Int} (h : Canon l) : l = nm (val l) := by
  induction l with
  | nil => rw [val, nm_zero]
  | cons x l ih =>
    obtain ⟨h1, h2⟩ := W_cons h.1
    have hp := canon_pos h (by simp)
    have := pow_pos' ((x :: l).length - 1)
    rw [nm_pos (by omega)]
    have e1 : val (x :: l) % 4294967296 = x.toNat := by simp only [val]; omega
    have e2 : val (x :: l) / 4294967296 = val l := by simp only [val]; omega
    rw [e1, e2]
    have e3 : l = nm (val l) := by
      by_cases hl : l = []
      · subst hl; rw [val, nm_zero]
      · exact ih (canon_cons h hl)
    rw [← e3, Int.toNat_of_nonneg h1.1]
theorem nm_canon (n : Nat) : Canon (nm n) := by
  refine ⟨nm_W n, ?_⟩
  induction n using Nat.strongRecOn with
  | _ n ih =>
    by_cases h : n = 0
    · subst h; rw [nm_zero]; intro h; simp at h
    · intro _
      rw [nm_pos h]
      by_cases h2 : n / 4294967296 = 0
      · rw [h2, nm_zero]
        simp only [List.length_cons, List.length_nil]
        show ((n % 4294967296 : Nat) : Int) ≠ 0
        omega
      · have hl : 0 < (nm (n / 4294967296)).length := by rw [nm_pos h2]; simp
        have := ih (n / 4294967296) (by omega) hl
        simp only [List.length_cons]
        rw [show ((((nm (n / 4294967296)).length + 1 : Nat) : Int) - 1) = ((((nm (n / 4294967296)).length - 1) + 1 : Nat) : Int) by omega, rd_cons_succ]
        rwa [show (((nm (n / 4294967296)).length : Int) - 1) = (((nm (n / 4294967296)).length - 1 : Nat) : Int) by omega] at this
theorem nm_len_lt {n k : Nat} (h : n < 4294967296 ^ k) : (nm n).length ≤ k := by
  by_cases hn : nm n = []
  · rw [hn]; simp
  · have := canon_pos (nm_canon n) hn
    rw [val_nm] at this
    have h2 : 4294967296 ^ ((nm n).length - 1) < 4294967296 ^ k := Nat.lt_of_le_of_lt this h
    have h3 := (Nat.pow_lt_pow_iff_right (a := 4294967296) (by omega)).mp h2
    omega
theorem nm_len_le {n : Nat} : n < 4294967296 ^ (nm n).length := by
  have := val_lt (nm_W n)
  rwa [val_nm] at this

/-! be: the number of bytes, the greatest first -/
def B8 (l : List Int) : Prop := ∀ x ∈ l, 0 ≤ x ∧ x < 256
def be (l : List Int) : Nat := l.foldl (fun a x => a * 256 + x.toNat) 0
def bytesOf (V n : Nat) : List Int := (List.range n).map fun i => ((V / 256 ^ (n - 1 - i) % 256 : Nat) : Int)
theorem u64_join (x y : Int) (i : Nat) (hx0 : 0 ≤ x) (hx : x % 2 ^ i = 0) (hx1 : x < 18446744073709551616) (hy0 : 0 ≤ y) (hy : y < 2 ^ i) (hy1 : y < 18446744073709551616) : Go.bits .or .u64 x y = x + y :=
  bits_join .u64 64 (by decide) (fun n h0 h1 => by simp [IntKind.wrap, IntKind.bits, IntKind.signed]; omega) i x y hx0 hx (by omega) hy0 hy (by omega)
theorem wu64 (n : Int) : IntKind.u64.wrap n = n % 18446744073709551616 := by simp [IntKind.wrap, IntKind.bits, IntKind.signed]
theorem w64 (n : Int) (h0 : -9223372036854775808 ≤ n) (h1 : n < 9223372036854775808) : wrap64 n = n := by unfold wrap64; omega
end Go.Proofs.Ytlmjbhhapllfgaa.V
namespace Go.Proofs.Ytlmjbhhapllfgaa.V
open Go.RowKit Go.Proofs.Ytlmjbhhapllfgaa.A Go.Proofs.YtlmjbhhapllfgaaW.PrintWords Go.Proofs.YtlmjbhhapllfgaaW.PrintLast
set_option linter.unusedVariables false
set_option linter.unusedSimpArgs false

/-! plain, Trim -/
theorem plain {l : List Int} (hw : W l) (hl : l.length < 4611686018427387904) : Ev (fun k => nat_plain.l0 k l) (nm (val l)) := by
  generalize hn : l.length = n
  induction n generalizing l with
  | zero =>
    obtain rfl := List.length_eq_zero_iff.mp hn
    exact Ev.step (f := fun _ => some []) (fun k => by simp [nat_plain.l0]) (by rw [val, nm_zero]; exact Ev.now _)
  | succ n ih =>
    have w : wrap64 ((l.length : Int) - 1) = (n : Int) := by rw [hn]; unfold wrap64; omega
    by_cases hx : rd l (n : Int) = 0
    · refine Ev.step (f := fun k => nat_plain.l0 k (l.take n)) (fun k => ?_) ?_
      · simp only [nat_plain.l0, w]
        rw [if_pos (by omega), if_pos (by omega), if_pos (by omega), if_pos hx, if_pos (by omega)]
        rfl
      · have e : val (l.take n) = val l := by
          rw [val_take hw]
          have h1 := rd_val hw n (by omega)
          have h2 := val_lt hw
          rw [hn, pow_succ'] at h2
          rw [hx] at h1
          have h3 : val l / 4294967296 ^ n < 4294967296 := (Nat.div_lt_iff_lt_mul (pow_pos' n)).mpr h2
          have h4 : val l / 4294967296 ^ n = 0 := by
            generalize val l / 4294967296 ^ n = z at h1 h3 ⊢
            omega
          exact Nat.mod_eq_of_lt ((Nat.div_eq_zero_iff_lt (pow_pos' n)).mp h4)
        have := ih (W_take hw n) (by rw [List.length_take]; omega) (by rw [List.length_take]; omega)
        rwa [e] at this
    · have c : Canon l := ⟨hw, fun _ => by rw [hn, show (((n + 1 : Nat) : Int) - 1) = (n : Int) by omega]; exact hx⟩
      refine Ev.step (f := fun _ => some l) (fun k => ?_) ?_
      · simp only [nat_plain.l0, w]
        rw [if_pos (by omega), if_pos (by omega), if_pos (by omega), if_neg hx]
      · rw [← canon_eq c]; exact Ev.now _
theorem plainf {l : List Int} (hw : W l) (hl : l.length < 4611686018427387904) : Ev (fun k => nat_plain.f k l) (nm (val l)) := plain hw hl
/-! Bits -/
def bl (n : Nat) : Nat := if n = 0 then 0 else bl (n / 2) + 1
termination_by n
decreasing_by omega
theorem bl_zero : bl 0 = 0 := by rw [bl]; simp
theorem bl_pos {n : Nat} (h : n ≠ 0) : bl n = bl (n / 2) + 1 := by rw [bl]; simp [h]
theorem bl_le (n k : Nat) : bl n ≤ k ↔ n < 2 ^ k := by
  induction k generalizing n with
  | zero =>
    by_cases h : n = 0
    · subst h; simp [bl_zero]
    · rw [bl_pos h]; simp; omega
  | succ k ih =>
    by_cases h : n = 0
    · subst h; simp [bl_zero]; exact Nat.pow_pos (by omega)
    · rw [bl_pos h, Nat.pow_succ]
      have := ih (n / 2)
      omega
theorem bitLen_bl (n : Nat) (h : n < 2 ^ 64) : Lib.bitLen n = bl n := by
  induction n using Nat.strongRecOn with
  | _ n ih =>
    by_cases h0 : n = 0
    · subst h0; rw [bl_zero]; rfl
    · rw [Lib.bitLen_half n h0 h, ih (n / 2) (by omega) (by omega), bl_pos h0]; omega
/-! Of -/
end Go.Proofs.Ytlmjbhhapllfgaa.V
namespace Go.Proofs.Ytlmjbhhapllfgaa.V
open Go.RowKit Go.Proofs.Ytlmjbhhapllfgaa.A Go.Proofs.YtlmjbhhapllfgaaW.PrintWords Go.Proofs.YtlmjbhhapllfgaaW.PrintLast
set_option linter.unusedVariables false
set_option linter.unusedSimpArgs false

theorem rd_set (l : List Int) (i j : Nat) (v : Int) (h : i < l.length) : rd (l.set i v) (j : Int) = if i = j then v else rd l (j : Int) := by
  unfold rd
  simp only [Int.toNat_natCast]
  rw [List.getD_eq_getElem?_getD, List.getD_eq_getElem?_getD, List.getElem?_set]
  by_cases e : i = j
  · subst e; simp [h]
  · simp [e]
theorem rd_replicate (n j : Nat) : rd (List.replicate n 0) (j : Int) = 0 := by
  unfold rd
  simp only [Int.toNat_natCast]
  rw [List.getD_eq_getElem?_getD]
  by_cases h : j < n
  · simp [h]
  · simp [show n ≤ j by omega]
/-! Cmp, same -/
def cmpv (a b : Nat) : Int := if a = b then 0 else if a < b then -1 else 1
theorem take_val {l : List Int} (hw : W l) (i : Nat) (h : i < l.length) : val (l.take (i + 1)) = val (l.take i) + 4294967296 ^ i * (rd l (i : Int)).toNat ∧ val (l.take i) < 4294967296 ^ i := by
  constructor
  · rw [← List.take_append_getElem h, val_append, List.length_take, Nat.min_eq_left (by omega), rd_nat l i h]; simp [val]
  · have := val_lt (W_take hw i)
    rwa [List.length_take, Nat.min_eq_left (by omega)] at this
theorem cmp_step {a b : List Int} (ha : W a) (hb : W b) (i : Nat) (h1 : i < a.length) (h2 : i < b.length) :
    cmpv (val (a.take (i + 1))) (val (b.take (i + 1))) = if rd a (i : Int) = rd b (i : Int) then cmpv (val (a.take i)) (val (b.take i)) else if rd a (i : Int) < rd b (i : Int) then -1 else 1 := by
  obtain ⟨e1, l1⟩ := take_val ha i h1
  obtain ⟨e2, l2⟩ := take_val hb i h2
  have r1 := rd_W ha (i : Int) (by omega) (by omega)
  have r2 := rd_W hb (i : Int) (by omega) (by omega)
  rw [e1, e2]
  generalize val (a.take i) = x at *
  generalize val (b.take i) = y at *
  generalize rd a (i : Int) = u at *
  generalize rd b (i : Int) = v at *
  generalize 4294967296 ^ i = z at *
  unfold cmpv
  by_cases e : u = v
  · subst e
    rw [if_pos rfl]
    by_cases h3 : x = y
    · subst h3; rw [if_pos rfl, if_pos rfl]
    · rw [if_neg h3, if_neg (by omega)]
      by_cases h4 : x < y
      · rw [if_pos h4, if_pos (by omega)]
      · rw [if_neg h4, if_neg (by omega)]
  · rw [if_neg e]
    by_cases h3 : u < v
    · rw [if_pos h3]
      have : z * u.toNat + z ≤ z * v.toNat := by rw [← Nat.mul_succ]; exact Nat.mul_le_mul_left z (by omega)
      rw [if_neg (by omega), if_pos (by omega)]
    · rw [if_neg h3]
      have : z * v.toNat + z ≤ z * u.toNat := by rw [← Nat.mul_succ]; exact Nat.mul_le_mul_left z (by omega)
      rw [if_neg (by omega), if_neg (by omega)]
theorem refcmp_l0 {a b : List Int} (ha : W a) (hb : W b) (hl : a.length = b.length) (hm : a.length < 140737488355328) : ∀ i : Nat, i ≤ a.length →
    Ev (fun k => apostilleref7_Cmp.l0 k a b ((i : Int) - 1)) (cmpv (val (a.take i)) (val (b.take i))) := by
  intro i
  induction i with
  | zero =>
    intro _
    refine Ev.step (f := fun _ => some 0) (fun k => ?_) (Ev.now _)
    simp only [apostilleref7_Cmp.l0]
    rw [if_neg (by omega)]
  | succ i ih =>
    intro hi
    have w : wrap64 ((i : Int) - 1) = (i : Int) - 1 := w64 _ (by omega) (by omega)
    have e : ((i + 1 : Nat) : Int) - 1 = (i : Int) := by omega
    rw [cmp_step ha hb i (by omega) (by omega), e]
    by_cases h : rd a (i : Int) = rd b (i : Int)
    · rw [if_pos h]
      refine Ev.step (fun k => ?_) (ih (by omega))
      simp only [apostilleref7_Cmp.l0, w]
      rw [if_pos (by omega), if_pos (by omega), if_pos (by omega), if_pos (by omega), if_pos h]
    · rw [if_neg h]
      refine Ev.step (f := fun _ => if rd a (i : Int) < rd b (i : Int) then some (-1) else some 1) (fun k => ?_) ?_
      · simp only [apostilleref7_Cmp.l0, w]
        rw [if_pos (by omega), if_pos (by omega), if_pos (by omega), if_pos (by omega), if_neg h]
      · by_cases h2 : rd a (i : Int) < rd b (i : Int)
        · rw [if_pos h2]; exact Ev.congr (fun k => by rw [if_pos h2]) (Ev.now _)
        · rw [if_neg h2]; exact Ev.congr (fun k => by rw [if_neg h2]) (Ev.now _)
theorem canon_len_lt {a b : List Int} (ha : Canon a) (hb : Canon b) (h : a.length < b.length) : val a < val b := by
  have h1 := val_lt ha.1
  have h2 := canon_pos hb (fun e => by subst e; simp at h)
  exact Nat.lt_of_lt_of_le (Nat.lt_of_lt_of_le h1 (Nat.pow_le_pow_right (by omega) (by omega))) h2
theorem refcmp {a b : List Int} (ha : Canon a) (hb : Canon b) (hm : a.length < 140737488355328) : Ev (fun k => apostilleref7_Cmp.f k a b) (cmpv (val a) (val b)) := by
  unfold apostilleref7_Cmp.f
  by_cases h : a.length = b.length
  · have := refcmp_l0 ha.1 hb.1 h hm a.length (Nat.le_refl _)
    rw [List.take_of_length_le (Nat.le_refl _), List.take_of_length_le (by omega)] at this
    exact Ev.congr (fun k => by rw [if_pos (by omega), w64 _ (by omega) (by omega)]) this
  · by_cases h2 : a.length < b.length
    · have := canon_len_lt ha hb h2
      refine Ev.congr (f := fun _ => some (-1)) (fun k => by rw [if_neg (by omega), if_pos (by omega)]) ?_
      unfold cmpv
      rw [if_neg (by omega), if_pos this]; exact Ev.now _
    · have := canon_len_lt hb ha (by omega)
      refine Ev.congr (f := fun _ => some 1) (fun k => by rw [if_neg (by omega), if_neg (by omega)]) ?_
      unfold cmpv
      rw [if_neg (by omega), if_neg (by omega)]; exact Ev.now _
theorem known : Ev (fun k => apostillelaw7_known.f k) true := Ev.of (fun k => apostillelaw7_known.mono k) (k := 60) (by kernel_rfl)
end Go.Proofs.Ytlmjbhhapllfgaa.V
namespace Go.Proofs.Ytlmjbhhapllfgaa.V
open Go.RowKit Go.Proofs.Ytlmjbhhapllfgaa.A Go.Proofs.YtlmjbhhapllfgaaW.PrintWords Go.Proofs.YtlmjbhhapllfgaaW.PrintLast
set_option linter.unusedVariables false
set_option linter.unusedSimpArgs false

theorem wsucc (i : Nat) (h : i < 4611686018427387904) : wrap64 ((i : Int) + 1) = ((i + 1 : Nat) : Int) := by rw [w64 _ (by omega) (by omega)]; omega
theorem wadd (i j : Nat) (h : i < 2305843009213693952) (h2 : j < 2305843009213693952) : wrap64 ((i : Int) + (j : Int)) = ((i + j : Nat) : Int) := by rw [w64 _ (by omega) (by omega)]; omega
/-- digit i, or nought -/
def dg (l : List Int) (i : Nat) : Nat := (rd l (i : Int)).toNat
theorem dg_over (l : List Int) (i : Nat) (h : l.length ≤ i) : dg l i = 0 := by
  unfold dg rd
  simp only [Int.toNat_natCast]
  rw [List.getD_eq_getElem?_getD, List.getElem?_eq_none h]; rfl
theorem dg_lt {l : List Int} (hw : W l) (i : Nat) : dg l i < 4294967296 := by
  by_cases h : i < l.length
  · have := rd_W hw (i : Int) (by omega) (by omega)
    unfold dg
    omega
  · rw [dg_over l i (by omega)]; omega
theorem rd_dg {l : List Int} (hw : W l) (i : Nat) : rd l (i : Int) = (dg l i : Int) := by
  by_cases h : i < l.length
  · have := rd_W hw (i : Int) (by omega) (by omega)
    unfold dg
    omega
  · unfold dg
    have : rd l (i : Int) = 0 := by
      unfold rd
      simp only [Int.toNat_natCast]
      rw [List.getD_eq_getElem?_getD, List.getElem?_eq_none (by omega)]; rfl
    rw [this]; rfl
theorem take_dg {l : List Int} (hw : W l) (i : Nat) : val (l.take (i + 1)) = val (l.take i) + 4294967296 ^ i * dg l i ∧ val (l.take i) < 4294967296 ^ i := by
  by_cases h : i < l.length
  · exact take_val hw i h
  · rw [dg_over l i (by omega), List.take_of_length_le (by omega), List.take_of_length_le (by omega)]
    exact ⟨by simp, Nat.lt_of_lt_of_le (val_lt hw) (Nat.pow_le_pow_right (by omega) (by omega))⟩
theorem take_lt {l : List Int} (hw : W l) (i : Nat) : val (l.take i) < 4294967296 ^ i := (take_dg hw i).2
theorem W_snoc {l : List Int} (hw : W l) (x : Nat) (h : x < 4294967296) : W (l ++ [(x : Int)]) := by
  intro y hy
  rcases List.mem_append.mp hy with hy | hy
  · exact hw y hy
  · have := List.mem_singleton.mp hy
    omega
theorem val_snoc (l : List Int) (x : Nat) : val (l ++ [(x : Int)]) = val l + 4294967296 ^ l.length * x := by rw [val_append]; simp [val]

theorem add32 (x y c : Nat) (hx : x < 4294967296) (hy : y < 4294967296) (hc : c ≤ 1) : bits_Add32.f (x : Int) (y : Int) (c : Int) = some ((((x + y + c) % 4294967296 : Nat) : Int), (((x + y + c) / 4294967296 : Nat) : Int)) := by
  unfold bits_Add32.f
  simp only [wu64, Option.some.injEq, Prod.mk.injEq]
  omega
theorem sub32 (x y c : Nat) (hx : x < 4294967296) (hy : y < 4294967296) (hc : c ≤ 1) : bits_Sub32.f (x : Int) (y : Int) (c : Int) = some ((((x + 4294967296 - y - c) % 4294967296 : Nat) : Int), (((if x < y + c then 1 else 0) : Nat) : Int)) := by
  unfold bits_Sub32.f
  rw [if_pos (by omega)]
  by_cases h : x < y + c
  · rw [if_pos (by omega), if_pos h]
    simp only [Option.some.injEq, Prod.mk.injEq]
    omega
  · rw [if_neg (by omega), if_neg h]
    simp only [Option.some.injEq, Prod.mk.injEq]
    omega

/-! Add -/
theorem add_step (z s t x y c u : Nat) (h : u + z * c = s + t) : (u + z * ((x + y + c) % 4294967296)) + (4294967296 * z) * ((x + y + c) / 4294967296) = (s + z * x) + (t + z * y) := by
  have e := Nat.div_add_mod (x + y + c) 4294967296
  generalize (x + y + c) / 4294967296 = q at e ⊢
  generalize (x + y + c) % 4294967296 = r at e ⊢
  have e2 : z * (4294967296 * q + r) = z * (x + y + c) := by rw [e]
  rw [Nat.mul_add, Nat.mul_add, Nat.mul_add] at e2
  have e3 : 4294967296 * z * q = z * (4294967296 * q) := by rw [Nat.mul_comm 4294967296 z, Nat.mul_assoc]
  rw [e3]
  generalize z * (4294967296 * q) = A at *
  omega
theorem add_l0 {a b : List Int} (ha : W a) (hb : W b) (hl : a.length < 35184372088832) (hlb : b.length ≤ a.length) : ∀ (d i : Nat), i + d = a.length → ∀ (x : List Int) (c : Nat), c ≤ 1 → W x → x.length = i → val x + 4294967296 ^ i * c = val (a.take i) + val (b.take i) →
    Ev (fun k => nat_Add.l0 k b x (c : Int) a (a.length : Int) (i : Int)) (nm (val a + val b)) := by
  intro d
  induction d with
  | zero =>
    intro i hi x c hc hw hx hv
    obtain rfl : i = a.length := by omega
    have hw2 := W_snoc hw c (by omega)
    have hv2 := val_snoc x c
    rw [hx, hv, List.take_of_length_le (Nat.le_refl _), List.take_of_length_le hlb] at hv2
    refine Ev.step (f := fun k => (nat_plain.f k (x ++ [(c : Int)])).bind fun t => some t) (fun k => ?_) ?_
    · simp only [nat_Add.l0]
      rw [if_neg (by omega), if_pos (by omega)]
    · rw [← hv2]
      exact Ev.bind (f := fun _ t => some t) (plainf hw2 (by simp; omega)) (Ev.now _)
  | succ d ih =>
    intro i hi x c hc hw hx hv
    have hx1 := dg_lt ha i
    have hy1 := dg_lt hb i
    have hi3 : i + 1 + d = a.length := by omega
    have c1 : (i : Int) < (a.length : Int) := by omega
    have c2 : (0 : Int) ≤ (i : Int) := by omega
    have c3 : x.length < 35184372088832 := by omega
    have hbi : i < 4611686018427387904 := by omega
    have hc2 : (dg a i + dg b i + c) / 4294967296 ≤ 1 := by omega
    have hr : (dg a i + dg b i + c) % 4294967296 < 4294967296 := by omega
    have hs := add_step (4294967296 ^ i) (val (a.take i)) (val (b.take i)) (dg a i) (dg b i) c (val x) hv
    refine Ev.step (fun k => ?_) (ih (i + 1) hi3 (x ++ [(((dg a i + dg b i + c) % 4294967296 : Nat) : Int)]) ((dg a i + dg b i + c) / 4294967296) hc2 (W_snoc hw _ hr) (by simp; omega) ?_)
    · simp only [nat_Add.l0]
      rw [if_pos c1, if_pos c2, if_pos c1, wsucc i hbi, rd_dg ha]
      by_cases h : i < b.length
      · rw [if_pos (by omega), rd_dg hb, add32 _ _ _ hx1 hy1 hc]
        simp only [Option.bind_some]
        rw [if_pos c3]
      · rw [if_neg (by omega), show (0 : Int) = (dg b i : Int) by rw [dg_over b i (by omega)]; rfl, add32 _ _ _ hx1 hy1 hc]
        simp only [Option.bind_some]
        rw [if_pos c3]
    · rw [val_snoc, hx, (take_dg ha i).1, (take_dg hb i).1, pow_succ']
      exact hs
theorem addN {a b : List Int} (ha : W a) (hb : W b) (hla : a.length < 35184372088832) (hlb : b.length < 35184372088832) : Ev (fun k => nat_Add.f k a b) (nm (val a + val b)) := by
  have G : ∀ {a b : List Int}, W a → W b → a.length < 35184372088832 → b.length ≤ a.length → Ev (fun k => nat_Add.g k a b) (nm (val a + val b)) := by
    intro a b ha hb hl h
    have := add_l0 ha hb hl h a.length 0 (by omega) [] 0 (by omega) W_nil rfl (by simp [val])
    refine Ev.congr (fun k => ?_) this
    unfold nat_Add.g
    rw [wsucc a.length (by omega), if_pos (by omega), if_pos (by omega)]
    rfl
  unfold nat_Add.f
  by_cases h : a.length < b.length
  · have := G hb ha hlb (by omega)
    rw [Nat.add_comm] at this
    exact Ev.congr (fun k => if_pos h) this
  · exact Ev.congr (fun k => if_neg h) (G ha hb hla (by omega))
theorem dg_set (l : List Int) (i j v : Nat) (h : i < l.length) : dg (l.set i (v : Int)) j = if i = j then v else dg l j := by
  unfold dg
  rw [rd_set _ _ _ _ h]
  by_cases e : i = j
  · rw [if_pos e, if_pos e]; rfl
  · rw [if_neg e, if_neg e]
theorem val_dset {l : List Int} (i v : Nat) (h : i < l.length) : val (l.set i (v : Int)) + 4294967296 ^ i * dg l i = val l + 4294967296 ^ i * v := by
  have := val_set l i (v : Int) h
  unfold dg
  simpa using this
theorem dg_replicate (n j : Nat) : dg (List.replicate n 0) j = 0 := by unfold dg; rw [rd_replicate]; rfl
/-! Cmp -/
theorem compare_int (a b : Int) : cmp_Compare_int.f a b = some (if a < b then -1 else if a > b then 1 else 0) := by
  unfold cmp_Compare_int.f cmp_isNaN_int.f
  simp only [Option.bind_some, bne_self_eq_false, Bool.false_eq_true, if_false]
  split
  · rfl
  · split <;> rfl
theorem compare_uint32 (a b : Int) : cmp_Compare_uint32.f a b = some (if a < b then -1 else if a > b then 1 else 0) := by
  unfold cmp_Compare_uint32.f cmp_isNaN_uint32.f
  simp only [Option.bind_some, bne_self_eq_false, Bool.false_eq_true, if_false]
  split
  · rfl
  · split <;> rfl
theorem cmp_l0 {a b : List Int} (ha : W a) (hb : W b) (hl : a.length = b.length) (hm : a.length < 140737488355328) : ∀ i : Nat, i ≤ a.length →
    Ev (fun k => nat_Cmp.l0 k a b ((i : Int) - 1)) (cmpv (val (a.take i)) (val (b.take i))) := by
  intro i
  induction i with
  | zero =>
    intro _
    refine Ev.step (f := fun _ => some 0) (fun k => ?_) (Ev.now _)
    simp only [nat_Cmp.l0]
    rw [if_neg (by omega)]
  | succ i ih =>
    intro hi
    have w : wrap64 ((i : Int) - 1) = (i : Int) - 1 := w64 _ (by omega) (by omega)
    have e : ((i + 1 : Nat) : Int) - 1 = (i : Int) := by omega
    rw [cmp_step ha hb i (by omega) (by omega), e]
    by_cases h : rd a (i : Int) = rd b (i : Int)
    · rw [if_pos h]
      refine Ev.step (fun k => ?_) (ih (by omega))
      simp only [nat_Cmp.l0, w]
      rw [if_pos (by omega), if_pos (by omega), if_pos (by omega), if_pos (by omega), if_pos h]
    · rw [if_neg h]
      refine Ev.step (f := fun _ => if rd a (i : Int) < rd b (i : Int) then some (-1) else some 1) (fun k => ?_) ?_
      · simp only [nat_Cmp.l0, w]
        rw [if_pos (by omega), if_pos (by omega), if_pos (by omega), if_pos (by omega), if_neg h, compare_uint32, Option.bind_some]
        by_cases h2 : rd a (i : Int) < rd b (i : Int)
        · rw [if_pos h2, if_pos h2]
        · rw [if_neg h2, if_neg h2, if_pos (by omega)]
      · by_cases h2 : rd a (i : Int) < rd b (i : Int)
        · rw [if_pos h2]; exact Ev.congr (fun k => by rw [if_pos h2]) (Ev.now _)
        · rw [if_neg h2]; exact Ev.congr (fun k => by rw [if_neg h2]) (Ev.now _)
theorem cmpN {a b : List Int} (ha : Canon a) (hb : Canon b) (hm : a.length < 140737488355328) : Ev (fun k => nat_Cmp.f k a b) (cmpv (val a) (val b)) := by
  unfold nat_Cmp.f
  by_cases h : a.length = b.length
  · have := cmp_l0 ha.1 hb.1 h hm a.length (Nat.le_refl _)
    rw [List.take_of_length_le (Nat.le_refl _), List.take_of_length_le (by omega)] at this
    exact Ev.congr (fun k => by rw [if_pos (by omega), w64 _ (by omega) (by omega)]) this
  · by_cases h2 : a.length < b.length
    · have := canon_len_lt ha hb h2
      refine Ev.congr (f := fun _ => some (-1)) (fun k => by rw [if_neg (by omega), compare_int, Option.bind_some, if_pos (by omega)]) ?_
      unfold cmpv
      rw [if_neg (by omega), if_pos this]; exact Ev.now _
    · have := canon_len_lt hb ha (by omega)
      refine Ev.congr (f := fun _ => some 1) (fun k => by rw [if_neg (by omega), compare_int, Option.bind_some, if_neg (by omega), if_pos (by omega)]) ?_
      unfold cmpv
      rw [if_neg (by omega), if_neg (by omega)]; exact Ev.now _

/-! Sub -/
theorem sub_step (z s t x y c u : Nat) (hx : x < 4294967296) (hy : y < 4294967296) (hc : c ≤ 1) (h : s + z * c = u + t) :
    (s + z * x) + (4294967296 * z) * (if x < y + c then 1 else 0) = (u + z * ((x + 4294967296 - y - c) % 4294967296)) + (t + z * y) := by
  by_cases h1 : x < y + c
  · rw [if_pos h1, show (x + 4294967296 - y - c) % 4294967296 = x + 4294967296 - y - c by omega]
    obtain ⟨r, hr⟩ : ∃ r, r = x + 4294967296 - y - c := ⟨_, rfl⟩
    rw [← hr]
    have e : z * (x + 4294967296) = z * (r + y + c) := by rw [show x + 4294967296 = r + y + c by omega]
    rw [Nat.mul_add, Nat.mul_add, Nat.mul_add] at e
    rw [Nat.mul_one, Nat.mul_comm 4294967296 z]
    omega
  · rw [if_neg h1, show (x + 4294967296 - y - c) % 4294967296 = x - y - c by omega]
    obtain ⟨r, hr⟩ : ∃ r, r = x - y - c := ⟨_, rfl⟩
    rw [← hr]
    have e : z * x = z * (r + y + c) := by rw [show x = r + y + c by omega]
    rw [Nat.mul_add, Nat.mul_add] at e
    rw [Nat.mul_zero]
    omega
theorem sub_l0 {a b : List Int} (ha : W a) (hb : W b) (hl : a.length < 35184372088832) (hlb : b.length ≤ a.length) (hge : val b ≤ val a) : ∀ (d i : Nat), i + d = a.length → ∀ (x : List Int) (c : Nat), c ≤ 1 → W x → x.length = i → val (a.take i) + 4294967296 ^ i * c = val x + val (b.take i) →
    Ev (fun k => nat_Sub.l0 k b x (c : Int) a (a.length : Int) (i : Int)) (nm (val a - val b), true) := by
  intro d
  induction d with
  | zero =>
    intro i hi x c hc hw hx hv
    obtain rfl : i = a.length := by omega
    rw [List.take_of_length_le (Nat.le_refl _), List.take_of_length_le hlb] at hv
    have hxl := val_lt hw
    rw [hx] at hxl
    have hc0 : val x = val a - val b := by
      rcases Nat.eq_zero_or_pos c with h | h
      · subst h; omega
      · obtain rfl : c = 1 := by omega
        omega
    refine Ev.step (f := fun k => (nat_plain.f k x).bind fun t => some (t, true)) (fun k => ?_) ?_
    · simp only [nat_Sub.l0]
      rw [if_neg (by omega)]
    · rw [← hc0]
      exact Ev.bind (f := fun _ t => some (t, true)) (plainf hw (by omega)) (Ev.now _)
  | succ d ih =>
    intro i hi x c hc hw hx hv
    have hx1 := dg_lt ha i
    have hy1 := dg_lt hb i
    have hi3 : i + 1 + d = a.length := by omega
    have c1 : (i : Int) < (a.length : Int) := by omega
    have c2 : (0 : Int) ≤ (i : Int) := by omega
    have c3 : x.length < 35184372088832 := by omega
    have hbi : i < 4611686018427387904 := by omega
    have hc2 : (if dg a i < dg b i + c then 1 else 0) ≤ 1 := by split <;> omega
    have hr : (dg a i + 4294967296 - dg b i - c) % 4294967296 < 4294967296 := by omega
    have hs := sub_step (4294967296 ^ i) (val (a.take i)) (val (b.take i)) (dg a i) (dg b i) c (val x) hx1 hy1 hc hv
    refine Ev.step (fun k => ?_) (ih (i + 1) hi3 (x ++ [(((dg a i + 4294967296 - dg b i - c) % 4294967296 : Nat) : Int)]) (if dg a i < dg b i + c then 1 else 0) hc2 (W_snoc hw _ hr) (by simp; omega) ?_)
    · simp only [nat_Sub.l0]
      rw [if_pos c1, if_pos c2, if_pos c1, wsucc i hbi, rd_dg ha]
      by_cases h : i < b.length
      · rw [if_pos (by omega), rd_dg hb, sub32 _ _ _ hx1 hy1 hc]
        simp only [Option.bind_some]
        rw [if_pos c3]
      · rw [if_neg (by omega), show (0 : Int) = (dg b i : Int) by rw [dg_over b i (by omega)]; rfl, sub32 _ _ _ hx1 hy1 hc]
        simp only [Option.bind_some]
        rw [if_pos c3]
    · rw [val_snoc, hx, (take_dg ha i).1, (take_dg hb i).1, pow_succ']
      exact hs
theorem canon_len_le {a b : List Int} (ha : Canon a) (hb : Canon b) (h : val b ≤ val a) : b.length ≤ a.length := by
  by_cases c : a.length < b.length
  · have := canon_len_lt ha hb c
    omega
  · omega
def subR (a b : Nat) : List Int × Bool := if a < b then ([], false) else (nm (a - b), true)
theorem subN {a b : List Int} (ha : Canon a) (hb : Canon b) (hla : a.length < 35184372088832) : Ev (fun k => nat_Sub.f k a b) (subR (val a) (val b)) := by
  refine Ev.bind (f := fun k t209 => (if t209 < 0 then (some (([] : List Int), false)) else (if 0 ≤ (a.length : Int) then (if ((a.length : Int) : Int).toNat ≤ 70368744177664 then (nat_Sub.l0 k b (List.replicate 0 0) 0 a (a.length : Int) 0) else (none)) else (none)))) (cmpN ha hb (by omega)) ?_
  unfold subR
  by_cases h : val a < val b
  · rw [if_pos h]
    exact Ev.congr (f := fun _ => some ([], false)) (fun k => by rw [if_pos (by unfold cmpv; rw [if_neg (by omega), if_pos h]; omega)]) (Ev.now _)
  · rw [if_neg h]
    have := sub_l0 ha.1 hb.1 hla (canon_len_le ha hb (by omega)) (by omega) a.length 0 (by omega) [] 0 (by omega) W_nil rfl (by simp [val])
    refine Ev.congr (fun k => ?_) this
    rw [if_neg (by unfold cmpv; rw [if_neg h]; split <;> omega), if_pos (by omega), if_pos (by omega)]
    rfl
end Go.Proofs.Ytlmjbhhapllfgaa.V
namespace Go.Proofs.Ytlmjbhhapllfgaa.V
open Go.RowKit Go.Proofs.Ytlmjbhhapllfgaa.A Go.Proofs.YtlmjbhhapllfgaaW.PrintWords Go.Proofs.YtlmjbhhapllfgaaW.PrintLast
set_option linter.unusedVariables false
set_option linter.unusedSimpArgs false

theorem mul_ar (x y o c : Nat) (hx : x < 4294967296) (hy : y < 4294967296) (ho : o < 4294967296) (hc : c < 4294967296) :
    x * y + o + c < 18446744073709551616 ∧
    IntKind.u64.wrap (IntKind.u64.wrap (IntKind.u64.wrap (IntKind.u64.wrap (x : Int) * IntKind.u64.wrap (y : Int)) + IntKind.u64.wrap (o : Int)) + (c : Int)) = ((x * y + o + c : Nat) : Int) ∧
    IntKind.u64.wrap (IntKind.u64.wrap (IntKind.u64.wrap (o : Int) + IntKind.u64.wrap (IntKind.u64.wrap (x : Int) * IntKind.u64.wrap (y : Int))) + (c : Int)) = ((x * y + o + c : Nat) : Int) ∧
    ((x * y + o + c : Nat) : Int) % 4294967296 = (((x * y + o + c) % 4294967296 : Nat) : Int) ∧ ((x * y + o + c : Nat) : Int) / 4294967296 = (((x * y + o + c) / 4294967296 : Nat) : Int) ∧ (x * y + o + c) / 4294967296 < 4294967296 := by
  have h1 : x * y ≤ 4294967295 * 4294967295 := Nat.mul_le_mul (by omega) (by omega)
  have wx : IntKind.u64.wrap (x : Int) = (x : Int) := by rw [wu64]; omega
  have wy : IntKind.u64.wrap (y : Int) = (y : Int) := by rw [wu64]; omega
  have wo : IntKind.u64.wrap (o : Int) = (o : Int) := by rw [wu64]; omega
  rw [wx, wy, wo, ← Int.natCast_mul]
  clear wx wy wo
  generalize x * y = p at *
  refine ⟨by omega, ?_, ?_, by omega, by omega, by omega⟩
  · rw [wu64, wu64, wu64]; omega
  · rw [wu64, wu64, wu64]; omega
theorem mul_val (B z u v o s c x y : Nat) (h : u + z * o = v + z * (s % B)) (hs : s = x * y + o + c) (hB : 0 < B) : u + (B * z) * (s / B) = v + z * c + z * (x * y) := by
  have e := Nat.div_add_mod s B
  have e2 : z * (B * (s / B) + s % B) = z * (x * y + o + c) := by rw [e, hs]
  rw [Nat.mul_add, Nat.mul_add, Nat.mul_add] at e2
  have e3 : B * z * (s / B) = z * (B * (s / B)) := by rw [Nat.mul_comm B z, Nat.mul_assoc]
  rw [e3]
  generalize z * (B * (s / B)) = A at *
  generalize z * (s % B) = D at *
  generalize z * (x * y) = E at *
  omega
/-- one row of a product: digit i of the first number, from digit k of the second on -/
theorem mul_l1 {a b : List Int} (ha : W a) (hb : W b) (hla : a.length < 17592186044416) (hlb : b.length < 17592186044416) (i : Nat) (hi : i < a.length) (r : List Int) (v0 : Nat) :
    ∀ (d k : Nat), k + d = b.length → ∀ (x : List Int) (c : Nat), c < 4294967296 → W x → x.length = a.length + b.length → (∀ j, i + b.length ≤ j → dg x j = 0) → val x + 4294967296 ^ (i + k) * c = v0 + 4294967296 ^ i * (dg a i * val (b.take k)) →
    (∀ x' : List Int, W x' → x'.length = a.length + b.length → (∀ j, i + 1 + b.length ≤ j → dg x' j = 0) → val x' = v0 + 4294967296 ^ i * (dg a i * val b) → Ev (fun n => nat_Mul.l0 n b x' a (a.length : Int) ((i + 1 : Nat) : Int)) r) →
    Ev (fun n => nat_Mul.l1 n b x (i : Int) (dg a i : Int) (c : Int) a (a.length : Int) (i : Int) b (b.length : Int) (k : Int)) r := by
  intro d
  induction d with
  | zero =>
    intro k hk x c hc hw hx hz hv H
    obtain rfl : k = b.length := by omega
    rw [List.take_of_length_le (Nat.le_refl _)] at hv
    have h1 : i + b.length < x.length := by omega
    have h2 : (0 : Int) ≤ ((i + b.length : Nat) : Int) := by omega
    have h3 : ((i + b.length : Nat) : Int) < (x.length : Int) := by omega
    have h4 : (c : Int) % 4294967296 = (c : Int) := by omega
    have h5 := val_dset (l := x) (i + b.length) c h1
    rw [hz _ (Nat.le_refl _), Nat.mul_zero, Nat.add_zero, hv] at h5
    have h7 : i < 4611686018427387904 := by omega
    refine Ev.step (fun n => ?_) (H (x.set (i + b.length) (c : Int)) (W_set hw _ _ (by omega) (by omega)) (by rw [List.length_set]; exact hx) (fun j hj => ?_) h5)
    · simp only [nat_Mul.l1]
      rw [if_neg (by omega), wadd i b.length (by omega) (by omega), if_pos h2, if_pos h3, h4, wsucc i h7]
      rfl
    · rw [dg_set _ _ _ _ h1, if_neg (by omega), hz j (by omega)]
  | succ d ih =>
    intro k hk x c hc hw hx hz hv H
    have hx1 := dg_lt ha i
    have hy1 := dg_lt hb k
    have ho1 := dg_lt hw (i + k)
    have hk3 : k + 1 + d = b.length := by omega
    have c1 : (k : Int) < (b.length : Int) := by omega
    have c2 : (0 : Int) ≤ (k : Int) := by omega
    have c3 : (0 : Int) ≤ ((i + k : Nat) : Int) := by omega
    have c4 : ((i + k : Nat) : Int) < (x.length : Int) := by omega
    have c5 : i + k < x.length := by omega
    have c6 : (0 : Int) ≤ (i : Int) := by omega
    have c7 : (i : Int) < (a.length : Int) := by omega
    have hbk : k < 4611686018427387904 := by omega
    have hw1 : i < 2305843009213693952 := by omega
    have hw2 : k < 2305843009213693952 := by omega
    obtain ⟨_, e1, e1', e2, e3, hs⟩ := mul_ar (dg a i) (dg b k) (dg x (i + k)) c hx1 hy1 ho1 hc
    have h6 := val_dset (l := x) (i + k) ((dg a i * dg b k + dg x (i + k) + c) % 4294967296) c5
    have h7 := mul_val 4294967296 _ _ _ _ _ _ _ _ h6 rfl (by omega)
    refine Ev.step (fun n => ?_) (ih (k + 1) hk3 (x.set (i + k) (((dg a i * dg b k + dg x (i + k) + c) % 4294967296 : Nat) : Int)) ((dg a i * dg b k + dg x (i + k) + c) / 4294967296) hs (W_set hw _ _ (Int.natCast_nonneg _) (by have := Nat.mod_lt (dg a i * dg b k + dg x (i + k) + c) (show 0 < 4294967296 by omega); generalize (dg a i * dg b k + dg x (i + k) + c) % 4294967296 = z at *; clear e1 e1' e2 e3; omega)) (by rw [List.length_set]; exact hx) (fun j hj => ?_) ?_ H)
    · simp only [nat_Mul.l1]
      rw [if_pos c1, wadd i k hw1 hw2]
      simp only [if_pos c2, if_pos c1, if_pos c3, if_pos c4, if_pos c6, if_pos c7, wsucc k hbk, rd_dg ha, rd_dg hb, rd_dg hw, e1, e1', e2, e3]
      rfl
    · rw [dg_set _ _ _ _ c5, if_neg (by clear e1 e1' e2 e3; omega), hz j hj]
    · rw [show i + (k + 1) = (i + k) + 1 by omega, pow_succ', h7, hv, (take_dg hb k).1, Nat.mul_add, Nat.mul_add, Nat.add_assoc, Nat.pow_add]
      congr 2
      generalize 4294967296 ^ i = p
      generalize 4294967296 ^ k = q
      rw [Nat.mul_assoc, ← Nat.mul_assoc q, Nat.mul_comm q (dg a i), Nat.mul_assoc (dg a i)]
theorem mul_l0 {a b : List Int} (ha : W a) (hb : W b) (hla : a.length < 17592186044416) (hlb : b.length < 17592186044416) :
    ∀ (d i : Nat), i + d = a.length → ∀ x : List Int, W x → x.length = a.length + b.length → (∀ j, i + b.length ≤ j → dg x j = 0) → val x = val (a.take i) * val b →
    Ev (fun n => nat_Mul.l0 n b x a (a.length : Int) (i : Int)) (nm (val a * val b)) := by
  intro d
  induction d with
  | zero =>
    intro i hi x hw hx _ hv
    obtain rfl : i = a.length := by omega
    rw [List.take_of_length_le (Nat.le_refl _)] at hv
    refine Ev.step (f := fun k => (nat_plain.f k x).bind fun t => some t) (fun k => ?_) ?_
    · simp only [nat_Mul.l0]
      rw [if_neg (by omega)]
    · rw [← hv]
      exact Ev.bind (f := fun _ t => some t) (plainf hw (by omega)) (Ev.now _)
  | succ d ih =>
    intro i hi x hw hx hz hv
    have hi2 : i < a.length := by omega
    have c1 : (i : Int) < (a.length : Int) := by omega
    have c2 : (0 : Int) ≤ (i : Int) := by omega
    have := mul_l1 ha hb hla hlb i hi2 (nm (val a * val b)) (val (a.take i) * val b) b.length 0 (by omega) x 0 (by omega) hw hx hz (by simp [val, hv])
      (fun x' hw' hx' hz' hv' => ih (i + 1) (by omega) x' hw' hx' hz' (by rw [hv', (take_dg ha i).1, Nat.add_mul, Nat.mul_assoc]))
    refine Ev.step (fun n => ?_) this
    simp only [nat_Mul.l0]
    rw [if_pos c1]
    simp only [if_pos c1, if_pos c2, rd_dg ha, Int.natCast_zero]
theorem mulN {a b : List Int} (ha : W a) (hb : W b) (hla : a.length < 17592186044416) (hlb : b.length < 17592186044416) : Ev (fun k => nat_Mul.f k a b) (nm (val a * val b)) := by
  have := mul_l0 ha hb hla hlb a.length 0 (by omega) (List.replicate (a.length + b.length) 0) (W_replicate _) (by simp) (fun j _ => dg_replicate _ j) (by rw [val_replicate]; simp [val])
  refine Ev.congr (fun k => ?_) this
  unfold nat_Mul.f
  rw [wadd a.length b.length (by omega) (by omega), if_pos (by omega), if_pos (by omega)]
  rfl
end Go.Proofs.Ytlmjbhhapllfgaa.V
namespace Go.Proofs.Ytlmjbhhapllfgaa.V
open Go.RowKit Go.Proofs.Ytlmjbhhapllfgaa.A Go.Proofs.YtlmjbhhapllfgaaW.PrintWords Go.Proofs.YtlmjbhhapllfgaaW.PrintLast
set_option linter.unusedVariables false
set_option linter.unusedSimpArgs false

def isb (l : List Int) : Bool := decide (l.length ≤ 256) && (decide (l.length = 0) || decide (rd l ((l.length : Int) - 1) ≠ 0))
theorem isN {l : List Int} (h : l.length < 140737488355328) : nat_Is.f l = some (isb l) := by
  unfold nat_Is.f isb
  by_cases h1 : l.length ≤ 256
  · rw [if_pos (by omega)]
    by_cases h2 : l.length = 0
    · rw [if_pos (by omega)]; simp [h2]
    · rw [if_neg (by omega), w64 _ (by omega) (by omega), if_pos (by omega), if_pos (by omega)]
      simp only [h1, h2, bne, decide_true, decide_false, Bool.true_and, Bool.false_or]
      congr 1
      rw [Bool.eq_iff_iff]
      simp
  · rw [if_neg (by omega)]; simp [h1]
theorem refisN {l : List Int} (h : l.length < 140737488355328) : apostilleref7_Is.f l = some (isb l) := isN h
theorem isb_canon {l : List Int} (hw : W l) (h : isb l = true) : Canon l ∧ l.length ≤ 256 := by
  unfold isb at h
  simp at h
  refine ⟨⟨hw, fun hp => ?_⟩, h.1⟩
  rcases h.2 with h2 | h2
  · subst h2; simp at hp
  · exact h2
theorem wf_W {l : List Int} (h : ∀ x ∈ l, (Lit.int .u32 x).wf = true) : W l := fun x hx => by
  have := h x hx
  simp [Lit.wf, IntKind.min, IntKind.max, IntKind.signed, IntKind.bits] at this
  omega
theorem add_small {a b : List Int} (ha : W a) (hb : W b) (n : Nat) (h1 : a.length ≤ n) (h2 : b.length ≤ n) : val a + val b < 4294967296 ^ (n + 1) := by
  have e1 := Nat.lt_of_lt_of_le (val_lt ha) (Nat.pow_le_pow_right (n := 4294967296) (by omega) h1)
  have e2 := Nat.lt_of_lt_of_le (val_lt hb) (Nat.pow_le_pow_right (n := 4294967296) (by omega) h2)
  rw [pow_succ']
  omega
theorem known1 : Ev (fun k => (apostillelaw7_known.f k).bind fun t => some t) true := Ev.bind (f := fun _ t => some t) known (Ev.now _)
end Go.Proofs.Ytlmjbhhapllfgaa.V
