/- What the printed functions on bytes of numbers, order and sameness compute. -/
import Derived.Test.YtlmjbhhapllfgaaAx2
import Derived.Test.YtlmjbhhapllfgaaAx11
import Derived.Test.YtlmjbhhapllfgaaAx13
import Derived.Test.YtlmjbhhapllfgaaAx15
import Derived.Test.YtlmjbhhapllfgaaNatBy
namespace Go.Proofs.Ytlmjbhhapllfgaa.V
open Go.RowKit Go.Proofs.Ytlmjbhhapllfgaa.A Go.Proofs.YtlmjbhhapllfgaaW.PrintWords Go.Proofs.YtlmjbhhapllfgaaW.PrintLast
set_option linter.unusedVariables false
set_option linter.unusedSimpArgs false

theorem rd_set (l : List Int) (i j : Nat) (v : Int) (h : i < l.length) : rd (l.set i v) (j : Int) = if i = j then v else rd l (j : Int) := by
  unfold rd
  simp only [Int.toNat_natCast]
  rw [List.getD_eq_getElem?_getD, List.getD_eq_getElem?_getD, List.getElem?_set]
  by_cases e : i = j
  · subst e; simp [h]
  · simp [e]
theorem rd_replicate (n j : Nat) : rd (List.replicate n 0) (j : Int) = 0 := by
  unfold rd
  simp only [Int.toNat_natCast]
  rw [List.getD_eq_getElem?_getD]
  by_cases h : j < n
  · simp [h]
  · simp [show n ≤ j by omega]
def byt (V j : Nat) : Nat := V / 256 ^ j % 256
theorem bytesOf_byt (V n i p : Nat) (h : p + 1 + i = n) : rd (bytesOf V n) (i : Int) = (byt V p : Int) := by
  rw [bytesOf_rd V n i (by omega), show n - 1 - i = p by omega]; rfl
/-- one byte of a digit -/
theorem byte_at {l : List Int} (hw : W l) (p : Nat) (h : p / 4 < l.length) : (shr .u32 (rd l ((p / 4 : Nat) : Int)) ((8 * (p % 4) : Nat) : Int)) % 256 = (byt (val l) p : Int) := by
  rw [rd_val hw _ h]
  unfold byt
  have e256 : 256 ^ p = 4294967296 ^ (p / 4) * 256 ^ (p % 4) := by
    rw [show (4294967296 : Nat) = 256 ^ 4 from rfl, ← Nat.pow_mul, ← Nat.pow_add, Nat.div_add_mod]
  rw [e256, ← Nat.div_div_eq_div_mul]
  generalize val l / 4294967296 ^ (p / 4) = z
  have hr : p % 4 = 0 ∨ p % 4 = 1 ∨ p % 4 = 2 ∨ p % 4 = 3 := by omega
  unfold shr
  rcases hr with h | h | h | h <;> rw [h] <;> simp [IntKind.bits] <;> omega
theorem byte_over {l : List Int} (hw : W l) (p : Nat) (h : l.length ≤ p / 4) : byt (val l) p = 0 := by
  unfold byt
  have e256 : 256 ^ p = 4294967296 ^ (p / 4) * 256 ^ (p % 4) := by
    rw [show (4294967296 : Nat) = 256 ^ 4 from rfl, ← Nat.pow_mul, ← Nat.pow_add, Nat.div_add_mod]
  rw [e256, ← Nat.div_div_eq_div_mul, val_over hw _ h, Nat.zero_div, Nat.zero_mod]
theorem by_ar (n i p : Nat) (hp : p + 1 + i = n) (hn : n ≤ 2048) :
    wrap64 ((n : Int) - 1) = (n : Int) - 1 ∧ wrap64 ((n : Int) - 1 - (i : Int)) = (p : Int) ∧ wrap64 ((p / 4 : Nat) : Int) = ((p / 4 : Nat) : Int) ∧
    wrap64 (((p % 4 : Nat) : Int) * 8) = ((8 * (p % 4) : Nat) : Int) ∧ IntKind.u64.wrap (wrap64 (8 * ((i % 4 : Nat) : Int))) = ((8 * (i % 4) : Nat) : Int) ∧ wrap64 ((i : Int) + 1) = ((i + 1 : Nat) : Int) ∧
    (i : Int) < (n : Int) ∧ (0 : Int) ≤ ((p / 4 : Nat) : Int) ∧ (0 : Int) ≤ ((8 * (p % 4) : Nat) : Int) ∧ (0 : Int) ≤ (i : Int) ∧
    wrap64 ((i / 4 : Nat) : Int) = ((i / 4 : Nat) : Int) ∧ (0 : Int) ≤ ((i / 4 : Nat) : Int) ∧ (0 : Int) ≤ ((8 * (i % 4) : Nat) : Int) ∧ (0 : Int) ≤ (p : Int) ∧ (p : Int) < (n : Int) := by
  refine ⟨?_, ?_, ?_, ?_, ?_, ?_, ?_, ?_, ?_, ?_, ?_, ?_, ?_, ?_, ?_⟩
  · rw [w64 _ (by omega) (by omega)]
  · rw [w64 _ (by omega) (by omega)]; omega
  · rw [w64 _ (by omega) (by omega)]
  · rw [w64 _ (by omega) (by omega)]; omega
  · rw [w64 _ (by omega) (by omega), wu64]; omega
  · rw [w64 _ (by omega) (by omega)]; omega
  · omega
  · omega
  · omega
  · omega
  · rw [w64 _ (by omega) (by omega)]
  all_goals omega
theorem bytes_l0 {l : List Int} (hw : W l) (n : Nat) (hn : n ≤ 2048) : ∀ (d i : Nat), i + d = n → ∀ x : List Int, x.length = n → (∀ j : Nat, j < n → rd x (j : Int) = if j < i then (byt (val l) (n - 1 - j) : Int) else 0) →
    Ev (fun k => nat_Bytes.l0 k l (n : Int) x (n : Int) (i : Int)) (bytesOf (val l) n, true) := by
  intro d
  induction d with
  | zero =>
    intro i hi x hlen hx
    obtain rfl : i = n := by omega
    have e : x = bytesOf (val l) i := by
      refine ext_rd (by rw [hlen, bytesOf_len]) (fun j hj => ?_)
      rw [hx j (by omega), if_pos (by omega), bytesOf_byt _ _ _ (i - 1 - j) (by omega)]
    refine Ev.step (f := fun _ => some (x, true)) (fun k => ?_) (by rw [e]; exact Ev.now _)
    simp only [nat_Bytes.l0]
    rw [if_neg (by omega)]
  | succ d ih =>
    intro i hi x hlen
    obtain ⟨p, hp⟩ : ∃ p, p + 1 + i = n := ⟨d, by omega⟩
    have hi3 : i + 1 + d = n := by omega
    have hpi : n - 1 - i = p := by omega
    have c5 : (i : Int) < (x.length : Int) := by omega
    have c5' : i < x.length := by omega
    intro hx
    by_cases hq : p / 4 < l.length
    · have c6 : ((p / 4 : Nat) : Int) < (l.length : Int) := by omega
      have hx' : ∀ j : Nat, j < n → rd (x.set i ((shr .u32 (rd l ((p / 4 : Nat) : Int)) ((8 * (p % 4) : Nat) : Int)) % 256)) (j : Int) = if j < i + 1 then (byt (val l) (n - 1 - j) : Int) else 0 := by
        intro j hj
        rw [rd_set _ _ _ _ c5', byte_at hw p hq, hx j hj]
        by_cases e : i = j
        · subst e; rw [if_pos rfl, if_pos (by omega), hpi]
        · rw [if_neg e]
          by_cases e2 : j < i
          · rw [if_pos e2, if_pos (by omega)]
          · rw [if_neg e2, if_neg (by omega)]
      obtain ⟨w1, w2, w3, w4, _, w5, c1, c2, c3, c4, _⟩ := by_ar n i p hp hn
      refine Ev.step (fun k => ?_) (ih (i + 1) hi3 (x.set i ((shr .u32 (rd l ((p / 4 : Nat) : Int)) ((8 * (p % 4) : Nat) : Int)) % 256)) (by rw [List.length_set]; exact hlen) hx')
      simp only [nat_Bytes.l0, w1, w2, td4, tm4, w3, w4, w5]
      rw [if_pos c1, if_pos c6, if_pos c2, if_pos c3, if_pos c4, if_pos c5]
      rfl
    · have c6 : ¬ ((p / 4 : Nat) : Int) < (l.length : Int) := by omega
      have hq' : l.length ≤ p / 4 := by omega
      have hx' : ∀ j : Nat, j < n → rd x (j : Int) = if j < i + 1 then (byt (val l) (n - 1 - j) : Int) else 0 := by
        intro j hj
        rw [hx j hj]
        by_cases e : i = j
        · subst e; rw [if_neg (by omega), if_pos (by omega), hpi, byte_over hw p hq']; rfl
        · by_cases e2 : j < i
          · rw [if_pos e2, if_pos (by omega)]
          · rw [if_neg e2, if_neg (by omega)]
      obtain ⟨w1, w2, w3, w4, _, w5, c1, c2, c3, c4, _⟩ := by_ar n i p hp hn
      refine Ev.step (fun k => ?_) (ih (i + 1) hi3 x hlen hx')
      simp only [nat_Bytes.l0, w1, w2, td4, tm4, w3, w4, w5]
      rw [if_pos c1, if_neg c6]
theorem refbytes_l0 {l : List Int} (hw : W l) (n : Nat) (hn : n ≤ 2048) : ∀ (d i : Nat), i + d = n → ∀ x : List Int, x.length = n → (∀ j : Nat, j < n → rd x (j : Int) = if n - 1 - j < i then (byt (val l) (n - 1 - j) : Int) else 0) →
    Ev (fun k => apostilleref7_Bytes.l0 k l (n : Int) x (i : Int)) (bytesOf (val l) n, true) := by
  intro d
  induction d with
  | zero =>
    intro i hi x hlen hx
    obtain rfl : i = n := by omega
    have e : x = bytesOf (val l) i := by
      refine ext_rd (by rw [hlen, bytesOf_len]) (fun j hj => ?_)
      rw [hx j (by omega), if_pos (by omega), bytesOf_byt _ _ _ (i - 1 - j) (by omega)]
    refine Ev.step (f := fun _ => some (x, true)) (fun k => ?_) (by rw [e]; exact Ev.now _)
    simp only [apostilleref7_Bytes.l0]
    rw [if_neg (by omega)]
  | succ d ih =>
    intro i hi x hlen
    obtain ⟨p, hp⟩ : ∃ p, p + 1 + i = n := ⟨d, by omega⟩
    have hi3 : i + 1 + d = n := by omega
    have hpi : n - 1 - p = i := by omega
    have hpx : p < x.length := by omega
    have c5 : (p : Int) < (x.length : Int) := by omega
    intro hx
    by_cases hq : i / 4 < l.length
    · have c6 : ((i / 4 : Nat) : Int) < (l.length : Int) := by omega
      have hx' : ∀ j : Nat, j < n → rd (x.set p ((shr .u32 (rd l ((i / 4 : Nat) : Int)) ((8 * (i % 4) : Nat) : Int)) % 256)) (j : Int) = if n - 1 - j < i + 1 then (byt (val l) (n - 1 - j) : Int) else 0 := by
        intro j hj
        rw [rd_set _ _ _ _ hpx, byte_at hw i hq, hx j hj]
        by_cases e : p = j
        · subst e; rw [if_pos rfl, if_pos (by omega), hpi]
        · rw [if_neg e]
          by_cases e2 : n - 1 - j < i
          · rw [if_pos e2, if_pos (by omega)]
          · rw [if_neg e2, if_neg (by omega)]
      obtain ⟨w1, w2, _, _, w4, w5, c1, _, _, _, w3, c2, c3, c4, _⟩ := by_ar n i p hp hn
      refine Ev.step (fun k => ?_) (ih (i + 1) hi3 (x.set p ((shr .u32 (rd l ((i / 4 : Nat) : Int)) ((8 * (i % 4) : Nat) : Int)) % 256)) (by rw [List.length_set]; exact hlen) hx')
      simp only [apostilleref7_Bytes.l0, w1, w2, td4, tm4, w3, w4, w5]
      rw [if_pos c1, if_pos c6, if_pos c2, if_pos c3, if_pos c4, if_pos c5]
      rfl
    · have c6 : ¬ ((i / 4 : Nat) : Int) < (l.length : Int) := by omega
      have e : x = bytesOf (val l) n := by
        refine ext_rd (by rw [hlen, bytesOf_len]) (fun j hj => ?_)
        rw [hx j (by omega), bytesOf_byt _ _ _ (n - 1 - j) (by omega)]
        by_cases e2 : n - 1 - j < i
        · rw [if_pos e2]
        · rw [if_neg e2, byte_over hw _ (by omega)]; rfl
      obtain ⟨w1, w2, _, _, w4, w5, c1, _, _, _, w3, c2, c3, c4, _⟩ := by_ar n i p hp hn
      refine Ev.step (f := fun _ => some (x, true)) (fun k => ?_) (by rw [e]; exact Ev.now _)
      simp only [apostilleref7_Bytes.l0, td4, w3]
      rw [if_pos c1, if_neg c6]
def bytesR (V : Nat) (n : Int) : List Int × Bool := if n < 0 ∨ n > 2048 ∨ (bl V : Int) > 8 * n then ([], false) else (bytesOf V n.toNat, true)
theorem bytes_j0 {V : Nat} (n : Nat) (hn : n ≤ 2048) : Ev (fun k => nat_Bytes.j0 k (nm V) (n : Int) false) (bytesOf V n, true) := by
  have := bytes_l0 (nm_W V) n hn n 0 (by omega) (List.replicate n 0) (by simp) (fun j _ => by rw [rd_replicate, if_neg (by omega)])
  rw [val_nm] at this
  refine Ev.step (fun k => ?_) this
  simp only [nat_Bytes.j0]
  rw [if_neg (by simp), if_pos (by omega), if_pos (by omega)]
  simp only [Option.bind_some, Int.toNat_natCast, List.length_replicate, Int.natCast_zero]
theorem refbytes_j0 {V : Nat} (n : Nat) (hn : n ≤ 2048) : Ev (fun k => apostilleref7_Bytes.j0 k (nm V) (n : Int) false) (bytesOf V n, true) := by
  have := refbytes_l0 (nm_W V) n hn n 0 (by omega) (List.replicate n 0) (by simp) (fun j _ => by rw [rd_replicate, if_neg (by omega)])
  rw [val_nm] at this
  refine Ev.step (fun k => ?_) this
  simp only [apostilleref7_Bytes.j0]
  rw [if_neg (by simp), if_pos (by omega), if_pos (by omega)]
  simp only [Int.toNat_natCast, Int.natCast_zero]
theorem bytesN {V : Nat} (hl : (nm V).length < 140737488355328) (n : Int) : Ev (fun k => nat_Bytes.f k (nm V) n) (bytesR V n) := by
  unfold nat_Bytes.f bytesR
  have hT : Ev (fun k => nat_Bytes.j0 k (nm V) n true) ([], false) := Ev.step (f := fun _ => some ([], false)) (fun k => by simp only [nat_Bytes.j0, if_true]) (Ev.now _)
  by_cases h1 : n < 0
  · rw [if_pos (Or.inl h1)]; exact Ev.congr (fun k => by rw [if_pos h1]) hT
  · by_cases h2 : n > 2048
    · rw [if_pos (Or.inr (Or.inl h2))]; exact Ev.congr (fun k => by rw [if_neg h1, if_pos h2]) hT
    · have w : wrap64 (n * 8) = 8 * n := by rw [w64 _ (by omega) (by omega)]; omega
      by_cases h3 : (bl V : Int) > 8 * n
      · rw [if_pos (Or.inr (Or.inr h3))]
        exact Ev.congr (fun k => by rw [if_neg h1, if_neg h2, bitsN hl, Option.bind_some, w, decide_eq_true h3]) hT
      · rw [if_neg (by omega)]
        have := bytes_j0 (V := V) n.toNat (by omega)
        rw [Int.toNat_of_nonneg (by omega)] at this
        exact Ev.congr (fun k => by rw [if_neg h1, if_neg h2, bitsN hl, Option.bind_some, w, decide_eq_false h3]) this
theorem refbytesN {V : Nat} (hl : (nm V).length < 140737488355328) (n : Int) : Ev (fun k => apostilleref7_Bytes.f k (nm V) n) (bytesR V n) := by
  unfold apostilleref7_Bytes.f bytesR
  have hT : Ev (fun k => apostilleref7_Bytes.j0 k (nm V) n true) ([], false) := Ev.step (f := fun _ => some ([], false)) (fun k => by simp only [apostilleref7_Bytes.j0, if_true]) (Ev.now _)
  by_cases h1 : n < 0
  · rw [if_pos (Or.inl h1)]; exact Ev.congr (fun k => by rw [if_pos h1]) hT
  · by_cases h2 : n > 2048
    · rw [if_pos (Or.inr (Or.inl h2))]; exact Ev.congr (fun k => by rw [if_neg h1, if_pos h2]) hT
    · have w : wrap64 (8 * n) = 8 * n := by rw [w64 _ (by omega) (by omega)]
      by_cases h3 : (bl V : Int) > 8 * n
      · rw [if_pos (Or.inr (Or.inr h3))]
        refine Ev.congr (f := fun k => (apostilleref7_Bits.f k (nm V)).bind fun t => apostilleref7_Bytes.j0 k (nm V) n (decide (t > 8 * n))) (fun k => by rw [if_neg h1, if_neg h2, w]) ?_
        exact Ev.bind (f := fun k t => apostilleref7_Bytes.j0 k (nm V) n (decide (t > 8 * n))) (refbits hl) (by rw [decide_eq_true h3]; exact hT)
      · rw [if_neg (by omega)]
        have := refbytes_j0 (V := V) n.toNat (by omega)
        rw [Int.toNat_of_nonneg (by omega)] at this
        refine Ev.congr (f := fun k => (apostilleref7_Bits.f k (nm V)).bind fun t => apostilleref7_Bytes.j0 k (nm V) n (decide (t > 8 * n))) (fun k => by rw [if_neg h1, if_neg h2, w]) ?_
        exact Ev.bind (f := fun k t => apostilleref7_Bytes.j0 k (nm V) n (decide (t > 8 * n))) (refbits hl) (by rw [decide_eq_false h3]; exact this)

/-! Cmp, same -/
def cmpv (a b : Nat) : Int := if a = b then 0 else if a < b then -1 else 1
theorem take_val {l : List Int} (hw : W l) (i : Nat) (h : i < l.length) : val (l.take (i + 1)) = val (l.take i) + 4294967296 ^ i * (rd l (i : Int)).toNat ∧ val (l.take i) < 4294967296 ^ i := by
  constructor
  · rw [← List.take_append_getElem h, val_append, List.length_take, Nat.min_eq_left (by omega), rd_nat l i h]; simp [val]
  · have := val_lt (W_take hw i)
    rwa [List.length_take, Nat.min_eq_left (by omega)] at this
theorem cmp_step {a b : List Int} (ha : W a) (hb : W b) (i : Nat) (h1 : i < a.length) (h2 : i < b.length) :
    cmpv (val (a.take (i + 1))) (val (b.take (i + 1))) = if rd a (i : Int) = rd b (i : Int) then cmpv (val (a.take i)) (val (b.take i)) else if rd a (i : Int) < rd b (i : Int) then -1 else 1 := by
  obtain ⟨e1, l1⟩ := take_val ha i h1
  obtain ⟨e2, l2⟩ := take_val hb i h2
  have r1 := rd_W ha (i : Int) (by omega) (by omega)
  have r2 := rd_W hb (i : Int) (by omega) (by omega)
  rw [e1, e2]
  generalize val (a.take i) = x at *
  generalize val (b.take i) = y at *
  generalize rd a (i : Int) = u at *
  generalize rd b (i : Int) = v at *
  generalize 4294967296 ^ i = z at *
  unfold cmpv
  by_cases e : u = v
  · subst e
    rw [if_pos rfl]
    by_cases h3 : x = y
    · subst h3; rw [if_pos rfl, if_pos rfl]
    · rw [if_neg h3, if_neg (by omega)]
      by_cases h4 : x < y
      · rw [if_pos h4, if_pos (by omega)]
      · rw [if_neg h4, if_neg (by omega)]
  · rw [if_neg e]
    by_cases h3 : u < v
    · rw [if_pos h3]
      have : z * u.toNat + z ≤ z * v.toNat := by rw [← Nat.mul_succ]; exact Nat.mul_le_mul_left z (by omega)
      rw [if_neg (by omega), if_pos (by omega)]
    · rw [if_neg h3]
      have : z * v.toNat + z ≤ z * u.toNat := by rw [← Nat.mul_succ]; exact Nat.mul_le_mul_left z (by omega)
      rw [if_neg (by omega), if_neg (by omega)]
theorem refcmp_l0 {a b : List Int} (ha : W a) (hb : W b) (hl : a.length = b.length) (hm : a.length < 140737488355328) : ∀ i : Nat, i ≤ a.length →
    Ev (fun k => apostilleref7_Cmp.l0 k a b ((i : Int) - 1)) (cmpv (val (a.take i)) (val (b.take i))) := by
  intro i
  induction i with
  | zero =>
    intro _
    refine Ev.step (f := fun _ => some 0) (fun k => ?_) (Ev.now _)
    simp only [apostilleref7_Cmp.l0]
    rw [if_neg (by omega)]
  | succ i ih =>
    intro hi
    have w : wrap64 ((i : Int) - 1) = (i : Int) - 1 := w64 _ (by omega) (by omega)
    have e : ((i + 1 : Nat) : Int) - 1 = (i : Int) := by omega
    rw [cmp_step ha hb i (by omega) (by omega), e]
    by_cases h : rd a (i : Int) = rd b (i : Int)
    · rw [if_pos h]
      refine Ev.step (fun k => ?_) (ih (by omega))
      simp only [apostilleref7_Cmp.l0, w]
      rw [if_pos (by omega), if_pos (by omega), if_pos (by omega), if_pos (by omega), if_pos h]
    · rw [if_neg h]
      refine Ev.step (f := fun _ => if rd a (i : Int) < rd b (i : Int) then some (-1) else some 1) (fun k => ?_) ?_
      · simp only [apostilleref7_Cmp.l0, w]
        rw [if_pos (by omega), if_pos (by omega), if_pos (by omega), if_pos (by omega), if_neg h]
      · by_cases h2 : rd a (i : Int) < rd b (i : Int)
        · rw [if_pos h2]; exact Ev.congr (fun k => by rw [if_pos h2]) (Ev.now _)
        · rw [if_neg h2]; exact Ev.congr (fun k => by rw [if_neg h2]) (Ev.now _)
theorem canon_len_lt {a b : List Int} (ha : Canon a) (hb : Canon b) (h : a.length < b.length) : val a < val b := by
  have h1 := val_lt ha.1
  have h2 := canon_pos hb (fun e => by subst e; simp at h)
  exact Nat.lt_of_lt_of_le (Nat.lt_of_lt_of_le h1 (Nat.pow_le_pow_right (by omega) (by omega))) h2
theorem refcmp {a b : List Int} (ha : Canon a) (hb : Canon b) (hm : a.length < 140737488355328) : Ev (fun k => apostilleref7_Cmp.f k a b) (cmpv (val a) (val b)) := by
  unfold apostilleref7_Cmp.f
  by_cases h : a.length = b.length
  · have := refcmp_l0 ha.1 hb.1 h hm a.length (Nat.le_refl _)
    rw [List.take_of_length_le (Nat.le_refl _), List.take_of_length_le (by omega)] at this
    exact Ev.congr (fun k => by rw [if_pos (by omega), w64 _ (by omega) (by omega)]) this
  · by_cases h2 : a.length < b.length
    · have := canon_len_lt ha hb h2
      refine Ev.congr (f := fun _ => some (-1)) (fun k => by rw [if_neg (by omega), if_pos (by omega)]) ?_
      unfold cmpv
      rw [if_neg (by omega), if_pos this]; exact Ev.now _
    · have := canon_len_lt hb ha (by omega)
      refine Ev.congr (f := fun _ => some 1) (fun k => by rw [if_neg (by omega), if_neg (by omega)]) ?_
      unfold cmpv
      rw [if_neg (by omega), if_neg (by omega)]; exact Ev.now _
theorem same_self {V : Nat} (hm : (nm V).length < 140737488355328) : Ev (fun k => apostillelaw7_same.f k (nm V) (nm V)) true := by
  unfold apostillelaw7_same.f
  refine Ev.congr (f := fun k => (apostilleref7_Cmp.f k (nm V) (nm V)).bind fun t => some (t == 0)) (fun k => by rw [if_pos rfl]) ?_
  exact Ev.bind (f := fun _ (t : Int) => some (t == 0)) (refcmp (nm_canon V) (nm_canon V) hm) (by simp [cmpv]; exact Ev.now _)
theorem known : Ev (fun k => apostillelaw7_known.f k) true := Ev.of (fun k => apostillelaw7_known.mono k) (k := 60) (by kernel_rfl)
end Go.Proofs.Ytlmjbhhapllfgaa.V
