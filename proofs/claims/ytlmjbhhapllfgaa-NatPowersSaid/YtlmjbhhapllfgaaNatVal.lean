/- Numbers as rows of digits of 32 bits, the least first: their values, and the row that stands for a number. -/
import Derived.Test.YtlmjbhhapllfgaaWWords
import Derived.Test.YtlmjbhhapllfgaaWMore
import Derived.Laws.BitsLemmas
namespace Go.Proofs.Ytlmjbhhapllfgaa.V
open Go.RowKit Go.Proofs.YtlmjbhhapllfgaaW.PrintWords Go.Proofs.YtlmjbhhapllfgaaW.PrintLast
set_option linter.unusedVariables false
set_option linter.unusedSimpArgs false

def W (l : List Int) : Prop := ∀ x ∈ l, 0 ≤ x ∧ x < 4294967296
def val : List Int → Nat
  | [] => 0
  | x :: l => x.toNat + 4294967296 * val l
def Canon (l : List Int) : Prop := W l ∧ (0 < l.length → rd l ((l.length : Int) - 1) ≠ 0)
def nm (n : Nat) : List Int := if n = 0 then [] else ((n % 4294967296 : Nat) : Int) :: nm (n / 4294967296)
termination_by n
decreasing_by omega

theorem W_nil : W [] := by intro x h; cases h
theorem W_cons {x : Int} {l : List Int} (h : W (x :: l)) : (0 ≤ x ∧ x < 4294967296) ∧ W l := ⟨h x (by simp), fun y hy => h y (by simp [hy])⟩
theorem W_replicate (n : Nat) : W (List.replicate n 0) := by
  intro x h
  have := (List.mem_replicate.mp h).2
  omega
theorem W_take {l : List Int} (h : W l) (n : Nat) : W (l.take n) := fun x hx => h x (List.mem_of_mem_take hx)
theorem W_set {l : List Int} (h : W l) (q : Nat) (v : Int) (h0 : 0 ≤ v) (h1 : v < 4294967296) : W (l.set q v) := by
  intro x hx
  rcases List.mem_or_eq_of_mem_set hx with hx | hx
  · exact h x hx
  · omega
theorem val_replicate (n : Nat) : val (List.replicate n 0) = 0 := by
  induction n with
  | zero => rfl
  | succ n ih => simp [List.replicate_succ, val, ih]
theorem pow_succ' (q : Nat) : (4294967296 : Nat) ^ (q + 1) = 4294967296 * 4294967296 ^ q := by rw [Nat.pow_succ, Nat.mul_comm]
theorem pow_pos' (q : Nat) : 0 < (4294967296 : Nat) ^ q := Nat.pow_pos (by omega)
theorem val_lt {l : List Int} (h : W l) : val l < 4294967296 ^ l.length := by
  induction l with
  | nil => simp [val]
  | cons x l ih =>
    obtain ⟨h1, h2⟩ := W_cons h
    have := ih h2
    simp only [val, List.length_cons, pow_succ']
    omega
theorem rd_zero (x : Int) (l : List Int) : rd (x :: l) 0 = x := rfl
theorem rd_nat (l : List Int) (j : Nat) (h : j < l.length) : rd l (j : Int) = l[j] := by simp [rd, h]
theorem rd_mem {l : List Int} (j : Nat) (h : j < l.length) : rd l (j : Int) ∈ l := by rw [rd_nat l j h]; exact List.getElem_mem h
theorem rd_int {l : List Int} (i : Int) (h0 : 0 ≤ i) (h : i < l.length) : rd l i ∈ l := by
  have := rd_mem (l := l) i.toNat (by omega)
  rwa [show ((i.toNat : Nat) : Int) = i by omega] at this
theorem rd_W {l : List Int} (hw : W l) (i : Int) (h0 : 0 ≤ i) (h : i < l.length) : 0 ≤ rd l i ∧ rd l i < 4294967296 := hw _ (rd_int i h0 h)
theorem rd_cons_succ (x : Int) (l : List Int) (j : Nat) : rd (x :: l) ((j + 1 : Nat) : Int) = rd l (j : Int) := by simp [rd]
theorem rd_val {l : List Int} (hw : W l) (j : Nat) (h : j < l.length) : rd l (j : Int) = ((val l / 4294967296 ^ j % 4294967296 : Nat) : Int) := by
  induction l generalizing j with
  | nil => simp at h
  | cons x l ih =>
    obtain ⟨h1, h2⟩ := W_cons hw
    cases j with
    | zero =>
      show x = _
      simp only [val, Nat.pow_zero, Nat.div_one]
      omega
    | succ j =>
      rw [rd_cons_succ, ih h2 j (by simpa using h), pow_succ', ← Nat.div_div_eq_div_mul]
      congr 3
      simp only [val]
      omega
theorem val_over {l : List Int} (hw : W l) (j : Nat) (h : l.length ≤ j) : val l / 4294967296 ^ j = 0 :=
  Nat.div_eq_of_lt (Nat.lt_of_lt_of_le (val_lt hw) (Nat.pow_le_pow_right (by omega) h))
theorem val_set (l : List Int) (q : Nat) (v : Int) (h : q < l.length) : val (l.set q v) + 4294967296 ^ q * (rd l (q : Int)).toNat = val l + 4294967296 ^ q * v.toNat := by
  induction l generalizing q with
  | nil => simp at h
  | cons x l ih =>
    cases q with
    | zero => simp only [List.set_cons_zero, val, Nat.pow_zero, Nat.one_mul, Int.natCast_zero, rd_zero]; omega
    | succ q =>
      have := ih q (by simpa using h)
      rw [rd_cons_succ, List.set_cons_succ, pow_succ', Nat.mul_assoc, Nat.mul_assoc]
      simp only [val]
      generalize 4294967296 ^ q * (rd l (q : Int)).toNat = a at this ⊢
      generalize 4294967296 ^ q * v.toNat = b at this ⊢
      omega
theorem val_append (a b : List Int) : val (a ++ b) = val a + 4294967296 ^ a.length * val b := by
  induction a with
  | nil => simp [val]
  | cons x a ih => simp only [List.cons_append, val, ih, List.length_cons, pow_succ', Nat.mul_add, Nat.mul_assoc]; omega
theorem val_take {l : List Int} (hw : W l) (n : Nat) : val (l.take n) = val l % 4294967296 ^ n := by
  have e := val_append (l.take n) (l.drop n)
  rw [List.take_append_drop] at e
  have w := val_lt (W_take hw n)
  by_cases h : n ≤ l.length
  · rw [List.length_take, Nat.min_eq_left h] at e w
    rw [e, Nat.add_mul_mod_self_left, Nat.mod_eq_of_lt w]
  · rw [List.take_of_length_le (by omega)] at w ⊢
    rw [Nat.mod_eq_of_lt (Nat.lt_of_lt_of_le w (Nat.pow_le_pow_right (by omega) (by omega)))]
theorem nm_zero : nm 0 = [] := by rw [nm]; simp
theorem nm_pos {n : Nat} (h : n ≠ 0) : nm n = ((n % 4294967296 : Nat) : Int) :: nm (n / 4294967296) := by rw [nm]; simp [h]
theorem nm_W (n : Nat) : W (nm n) := by
  induction n using Nat.strongRecOn with
  | _ n ih =>
    by_cases h : n = 0
    · subst h; rw [nm_zero]; exact W_nil
    · rw [nm_pos h]
      intro x hx
      rcases List.mem_cons.mp hx with rfl | hx
      · omega
      · exact ih (n / 4294967296) (by omega) x hx
theorem val_nm (n : Nat) : val (nm n) = n := by
  induction n using Nat.strongRecOn with
  | _ n ih =>
    by_cases h : n = 0
    · subst h; rw [nm_zero]; rfl
    · rw [nm_pos h, val, ih (n / 4294967296) (by omega)]
      omega
theorem canon_cons {x : Int} {l : List Int} (h : Canon (x :: l)) (hl : l ≠ []) : Canon l := by
  refine ⟨(W_cons h.1).2, fun hp => ?_⟩
  have := h.2 (by simp)
  simp only [List.length_cons] at this
  rw [show (((l.length + 1 : Nat) : Int) - 1) = (((l.length - 1) + 1 : Nat) : Int) by omega, rd_cons_succ] at this
  rwa [show ((l.length : Int) - 1) = ((l.length - 1 : Nat) : Int) by omega]
theorem canon_pos {l : List Int} (h : Canon l) (hl : l ≠ []) : 4294967296 ^ (l.length - 1) ≤ val l := by
  induction l with
  | nil => exact absurd rfl hl
  | cons x l ih =>
    obtain ⟨h1, h2⟩ := W_cons h.1
    cases l with
    | nil =>
      have := h.2 (by simp)
      simp only [List.length_cons, List.length_nil] at this
      have h3 : x ≠ 0 := by simpa [rd] using this
      simp only [val, List.length_cons, List.length_nil]
      simp
      omega
    | cons y l =>
      have := ih (canon_cons h (by simp)) (by simp)
      simp only [List.length_cons, Nat.add_sub_cancel] at this ⊢
      rw [pow_succ', val]
      omega
theorem canon_eq {l : List Int} (h : Canon l) : l = nm (val l) := by
  induction l with
  | nil => rw [val, nm_zero]
  | cons x l ih =>
    obtain ⟨h1, h2⟩ := W_cons h.1
    have hp := canon_pos h (by simp)
    have := pow_pos' ((x :: l).length - 1)
    rw [nm_pos (by omega)]
    have e1 : val (x :: l) % 4294967296 = x.toNat := by simp only [val]; omega
    have e2 : val (x :: l) / 4294967296 = val l := by simp only [val]; omega
    rw [e1, e2]
    have e3 : l = nm (val l) := by
      by_cases hl : l = []
      · subst hl; rw [val, nm_zero]
      · exact ih (canon_cons h hl)
    rw [← e3, Int.toNat_of_nonneg h1.1]
theorem nm_canon (n : Nat) : Canon (nm n) := by
  refine ⟨nm_W n, ?_⟩
  induction n using Nat.strongRecOn with
  | _ n ih =>
    by_cases h : n = 0
    · subst h; rw [nm_zero]; intro h; simp at h
    · intro _
      rw [nm_pos h]
      by_cases h2 : n / 4294967296 = 0
      · rw [h2, nm_zero]
        simp only [List.length_cons, List.length_nil]
        show ((n % 4294967296 : Nat) : Int) ≠ 0
        omega
      · have hl : 0 < (nm (n / 4294967296)).length := by rw [nm_pos h2]; simp
        have := ih (n / 4294967296) (by omega) hl
        simp only [List.length_cons]
        rw [show ((((nm (n / 4294967296)).length + 1 : Nat) : Int) - 1) = ((((nm (n / 4294967296)).length - 1) + 1 : Nat) : Int) by omega, rd_cons_succ]
        rwa [show (((nm (n / 4294967296)).length : Int) - 1) = (((nm (n / 4294967296)).length - 1 : Nat) : Int) by omega] at this
theorem nm_len_lt {n k : Nat} (h : n < 4294967296 ^ k) : (nm n).length ≤ k := by
  by_cases hn : nm n = []
  · rw [hn]; simp
  · have := canon_pos (nm_canon n) hn
    rw [val_nm] at this
    have h2 : 4294967296 ^ ((nm n).length - 1) < 4294967296 ^ k := Nat.lt_of_le_of_lt this h
    have h3 := (Nat.pow_lt_pow_iff_right (a := 4294967296) (by omega)).mp h2
    omega
theorem nm_len_le {n : Nat} : n < 4294967296 ^ (nm n).length := by
  have := val_lt (nm_W n)
  rwa [val_nm] at this

/-! be: the number of bytes, the greatest first -/
def B8 (l : List Int) : Prop := ∀ x ∈ l, 0 ≤ x ∧ x < 256
def be (l : List Int) : Nat := l.foldl (fun a x => a * 256 + x.toNat) 0
theorem be_snoc (l : List Int) (x : Int) : be (l ++ [x]) = be l * 256 + x.toNat := by simp [be, List.foldl_append]
theorem be_take (l : List Int) (i : Nat) (h : i < l.length) : be (l.take (i + 1)) = be (l.take i) * 256 + (rd l (i : Int)).toNat := by
  rw [rd_nat l i h, ← be_snoc, List.take_append_getElem]
theorem be_lt {l : List Int} (h : B8 l) : be l < 256 ^ l.length := by
  suffices H : ∀ i, i ≤ l.length → be (l.take i) < 256 ^ i by
    have := H l.length (Nat.le_refl _)
    rwa [List.take_of_length_le (Nat.le_refl _)] at this
  intro i
  induction i with
  | zero => intro _; simp [be]
  | succ i ih =>
    intro hi
    have := ih (by omega)
    have h2 := h _ (rd_mem (l := l) i (by omega))
    rw [be_take l i (by omega), Nat.pow_succ]
    omega
def bytesOf (V n : Nat) : List Int := (List.range n).map fun i => ((V / 256 ^ (n - 1 - i) % 256 : Nat) : Int)
theorem bytesOf_len (V n : Nat) : (bytesOf V n).length = n := by simp [bytesOf]
theorem bytesOf_rd (V n i : Nat) (h : i < n) : rd (bytesOf V n) (i : Int) = ((V / 256 ^ (n - 1 - i) % 256 : Nat) : Int) := by
  rw [rd_nat _ i (by rw [bytesOf_len]; exact h)]; simp [bytesOf]
theorem ext_rd {a b : List Int} (hl : a.length = b.length) (h : ∀ i : Nat, i < a.length → rd a (i : Int) = rd b (i : Int)) : a = b := by
  apply List.ext_getElem hl
  intro i h1 h2
  have := h i h1
  rwa [rd_nat a i h1, rd_nat b i h2] at this
theorem be_div {l : List Int} (h : B8 l) (i : Nat) (hi : i ≤ l.length) : be l / 256 ^ (l.length - i) = be (l.take i) := by
  suffices H : ∀ d i, i + d = l.length → be l / 256 ^ d = be (l.take i) from H (l.length - i) i (by omega)
  intro d
  induction d with
  | zero => intro i e; rw [List.take_of_length_le (by omega)]; simp
  | succ d ih =>
    intro i e
    have h1 := ih (i + 1) (by omega)
    have h2 := h _ (rd_mem (l := l) i (by omega))
    rw [be_take l i (by omega)] at h1
    rw [Nat.pow_succ, ← Nat.div_div_eq_div_mul, h1]
    omega
theorem bytesOf_be {l : List Int} (h : B8 l) : bytesOf (be l) l.length = l := by
  apply ext_rd (bytesOf_len _ _)
  intro i hi
  rw [bytesOf_len] at hi
  rw [bytesOf_rd _ _ _ hi]
  have h1 := be_div h (i + 1) (by omega)
  have h2 := h _ (rd_mem (l := l) i hi)
  rw [show l.length - 1 - i = l.length - (i + 1) by omega, h1, be_take l i hi]
  omega

theorem u32_join (x y : Int) (i : Nat) (hx0 : 0 ≤ x) (hx : x % 2 ^ i = 0) (hx1 : x < 4294967296) (hy0 : 0 ≤ y) (hy : y < 2 ^ i) (hy1 : y < 4294967296) : Go.bits .or .u32 x y = x + y :=
  bits_join .u32 32 (by decide) (fun n h0 h1 => by simp [IntKind.wrap, IntKind.bits, IntKind.signed]; omega) i x y hx0 hx (by omega) hy0 hy (by omega)
theorem u64_join (x y : Int) (i : Nat) (hx0 : 0 ≤ x) (hx : x % 2 ^ i = 0) (hx1 : x < 18446744073709551616) (hy0 : 0 ≤ y) (hy : y < 2 ^ i) (hy1 : y < 18446744073709551616) : Go.bits .or .u64 x y = x + y :=
  bits_join .u64 64 (by decide) (fun n h0 h1 => by simp [IntKind.wrap, IntKind.bits, IntKind.signed]; omega) i x y hx0 hx (by omega) hy0 hy (by omega)
theorem wu64 (n : Int) : IntKind.u64.wrap n = n % 18446744073709551616 := by simp [IntKind.wrap, IntKind.bits, IntKind.signed]
theorem wu32 (n : Int) : IntKind.u32.wrap n = n % 4294967296 := by simp [IntKind.wrap, IntKind.bits, IntKind.signed]
theorem w64 (n : Int) (h0 : -9223372036854775808 ≤ n) (h1 : n < 9223372036854775808) : wrap64 n = n := by unfold wrap64; omega
end Go.Proofs.Ytlmjbhhapllfgaa.V
