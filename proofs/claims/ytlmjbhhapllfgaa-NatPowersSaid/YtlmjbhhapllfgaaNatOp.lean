/- Sums, differences, products and order of numbers: what the printed functions compute, told by values. -/
import Derived.Test.YtlmjbhhapllfgaaAx1
import Derived.Test.YtlmjbhhapllfgaaAx2
import Derived.Test.YtlmjbhhapllfgaaAx3
import Derived.Test.YtlmjbhhapllfgaaAx4
import Derived.Test.YtlmjbhhapllfgaaAx12
import Derived.Test.YtlmjbhhapllfgaaAx13
import Derived.Test.YtlmjbhhapllfgaaAx14
import Derived.Test.YtlmjbhhapllfgaaNatBz
namespace Go.Proofs.Ytlmjbhhapllfgaa.V
open Go.RowKit Go.Proofs.Ytlmjbhhapllfgaa.A Go.Proofs.YtlmjbhhapllfgaaW.PrintWords Go.Proofs.YtlmjbhhapllfgaaW.PrintLast
set_option linter.unusedVariables false
set_option linter.unusedSimpArgs false

theorem wsucc (i : Nat) (h : i < 4611686018427387904) : wrap64 ((i : Int) + 1) = ((i + 1 : Nat) : Int) := by rw [w64 _ (by omega) (by omega)]; omega
theorem wadd (i j : Nat) (h : i < 2305843009213693952) (h2 : j < 2305843009213693952) : wrap64 ((i : Int) + (j : Int)) = ((i + j : Nat) : Int) := by rw [w64 _ (by omega) (by omega)]; omega
/-- digit i, or nought -/
def dg (l : List Int) (i : Nat) : Nat := (rd l (i : Int)).toNat
theorem dg_over (l : List Int) (i : Nat) (h : l.length ≤ i) : dg l i = 0 := by
  unfold dg rd
  simp only [Int.toNat_natCast]
  rw [List.getD_eq_getElem?_getD, List.getElem?_eq_none h]; rfl
theorem dg_lt {l : List Int} (hw : W l) (i : Nat) : dg l i < 4294967296 := by
  by_cases h : i < l.length
  · have := rd_W hw (i : Int) (by omega) (by omega)
    unfold dg
    omega
  · rw [dg_over l i (by omega)]; omega
theorem rd_dg {l : List Int} (hw : W l) (i : Nat) : rd l (i : Int) = (dg l i : Int) := by
  by_cases h : i < l.length
  · have := rd_W hw (i : Int) (by omega) (by omega)
    unfold dg
    omega
  · unfold dg
    have : rd l (i : Int) = 0 := by
      unfold rd
      simp only [Int.toNat_natCast]
      rw [List.getD_eq_getElem?_getD, List.getElem?_eq_none (by omega)]; rfl
    rw [this]; rfl
theorem take_dg {l : List Int} (hw : W l) (i : Nat) : val (l.take (i + 1)) = val (l.take i) + 4294967296 ^ i * dg l i ∧ val (l.take i) < 4294967296 ^ i := by
  by_cases h : i < l.length
  · exact take_val hw i h
  · rw [dg_over l i (by omega), List.take_of_length_le (by omega), List.take_of_length_le (by omega)]
    exact ⟨by simp, Nat.lt_of_lt_of_le (val_lt hw) (Nat.pow_le_pow_right (by omega) (by omega))⟩
theorem take_lt {l : List Int} (hw : W l) (i : Nat) : val (l.take i) < 4294967296 ^ i := (take_dg hw i).2
theorem W_snoc {l : List Int} (hw : W l) (x : Nat) (h : x < 4294967296) : W (l ++ [(x : Int)]) := by
  intro y hy
  rcases List.mem_append.mp hy with hy | hy
  · exact hw y hy
  · have := List.mem_singleton.mp hy
    omega
theorem val_snoc (l : List Int) (x : Nat) : val (l ++ [(x : Int)]) = val l + 4294967296 ^ l.length * x := by rw [val_append]; simp [val]

theorem digitN {l : List Int} (hw : W l) (i : Nat) : apostilleref7_digit.f l (i : Int) = some (dg l i : Int) := by
  unfold apostilleref7_digit.f
  by_cases h : i < l.length
  · rw [if_neg (by omega), if_pos (by omega), if_pos (by omega), rd_dg hw]
    have := dg_lt hw i
    rw [wu64]
    congr 1
    omega
  · rw [if_pos (by omega), dg_over l i (by omega)]; rfl
theorem add32 (x y c : Nat) (hx : x < 4294967296) (hy : y < 4294967296) (hc : c ≤ 1) : bits_Add32.f (x : Int) (y : Int) (c : Int) = some ((((x + y + c) % 4294967296 : Nat) : Int), (((x + y + c) / 4294967296 : Nat) : Int)) := by
  unfold bits_Add32.f
  simp only [wu64, Option.some.injEq, Prod.mk.injEq]
  omega
theorem sub32 (x y c : Nat) (hx : x < 4294967296) (hy : y < 4294967296) (hc : c ≤ 1) : bits_Sub32.f (x : Int) (y : Int) (c : Int) = some ((((x + 4294967296 - y - c) % 4294967296 : Nat) : Int), (((if x < y + c then 1 else 0) : Nat) : Int)) := by
  unfold bits_Sub32.f
  rw [if_pos (by omega)]
  by_cases h : x < y + c
  · rw [if_pos (by omega), if_pos h]
    simp only [Option.some.injEq, Prod.mk.injEq]
    omega
  · rw [if_neg (by omega), if_neg h]
    simp only [Option.some.injEq, Prod.mk.injEq]
    omega

/-! Add -/
theorem add_step (z s t x y c u : Nat) (h : u + z * c = s + t) : (u + z * ((x + y + c) % 4294967296)) + (4294967296 * z) * ((x + y + c) / 4294967296) = (s + z * x) + (t + z * y) := by
  have e := Nat.div_add_mod (x + y + c) 4294967296
  generalize (x + y + c) / 4294967296 = q at e ⊢
  generalize (x + y + c) % 4294967296 = r at e ⊢
  have e2 : z * (4294967296 * q + r) = z * (x + y + c) := by rw [e]
  rw [Nat.mul_add, Nat.mul_add, Nat.mul_add] at e2
  have e3 : 4294967296 * z * q = z * (4294967296 * q) := by rw [Nat.mul_comm 4294967296 z, Nat.mul_assoc]
  rw [e3]
  generalize z * (4294967296 * q) = A at *
  omega
theorem add_l0 {a b : List Int} (ha : W a) (hb : W b) (hl : a.length < 35184372088832) (hlb : b.length ≤ a.length) : ∀ (d i : Nat), i + d = a.length → ∀ (x : List Int) (c : Nat), c ≤ 1 → W x → x.length = i → val x + 4294967296 ^ i * c = val (a.take i) + val (b.take i) →
    Ev (fun k => nat_Add.l0 k b x (c : Int) a (a.length : Int) (i : Int)) (nm (val a + val b)) := by
  intro d
  induction d with
  | zero =>
    intro i hi x c hc hw hx hv
    obtain rfl : i = a.length := by omega
    have hw2 := W_snoc hw c (by omega)
    have hv2 := val_snoc x c
    rw [hx, hv, List.take_of_length_le (Nat.le_refl _), List.take_of_length_le hlb] at hv2
    refine Ev.step (f := fun k => (nat_plain.f k (x ++ [(c : Int)])).bind fun t => some t) (fun k => ?_) ?_
    · simp only [nat_Add.l0]
      rw [if_neg (by omega), if_pos (by omega)]
    · rw [← hv2]
      exact Ev.bind (f := fun _ t => some t) (plainf hw2 (by simp; omega)) (Ev.now _)
  | succ d ih =>
    intro i hi x c hc hw hx hv
    have hx1 := dg_lt ha i
    have hy1 := dg_lt hb i
    have hi3 : i + 1 + d = a.length := by omega
    have c1 : (i : Int) < (a.length : Int) := by omega
    have c2 : (0 : Int) ≤ (i : Int) := by omega
    have c3 : x.length < 35184372088832 := by omega
    have hbi : i < 4611686018427387904 := by omega
    have hc2 : (dg a i + dg b i + c) / 4294967296 ≤ 1 := by omega
    have hr : (dg a i + dg b i + c) % 4294967296 < 4294967296 := by omega
    have hs := add_step (4294967296 ^ i) (val (a.take i)) (val (b.take i)) (dg a i) (dg b i) c (val x) hv
    refine Ev.step (fun k => ?_) (ih (i + 1) hi3 (x ++ [(((dg a i + dg b i + c) % 4294967296 : Nat) : Int)]) ((dg a i + dg b i + c) / 4294967296) hc2 (W_snoc hw _ hr) (by simp; omega) ?_)
    · simp only [nat_Add.l0]
      rw [if_pos c1, if_pos c2, if_pos c1, wsucc i hbi, rd_dg ha]
      by_cases h : i < b.length
      · rw [if_pos (by omega), rd_dg hb, add32 _ _ _ hx1 hy1 hc]
        simp only [Option.bind_some]
        rw [if_pos c3]
      · rw [if_neg (by omega), show (0 : Int) = (dg b i : Int) by rw [dg_over b i (by omega)]; rfl, add32 _ _ _ hx1 hy1 hc]
        simp only [Option.bind_some]
        rw [if_pos c3]
    · rw [val_snoc, hx, (take_dg ha i).1, (take_dg hb i).1, pow_succ']
      exact hs
theorem addN {a b : List Int} (ha : W a) (hb : W b) (hla : a.length < 35184372088832) (hlb : b.length < 35184372088832) : Ev (fun k => nat_Add.f k a b) (nm (val a + val b)) := by
  have G : ∀ {a b : List Int}, W a → W b → a.length < 35184372088832 → b.length ≤ a.length → Ev (fun k => nat_Add.g k a b) (nm (val a + val b)) := by
    intro a b ha hb hl h
    have := add_l0 ha hb hl h a.length 0 (by omega) [] 0 (by omega) W_nil rfl (by simp [val])
    refine Ev.congr (fun k => ?_) this
    unfold nat_Add.g
    rw [wsucc a.length (by omega), if_pos (by omega), if_pos (by omega)]
    rfl
  unfold nat_Add.f
  by_cases h : a.length < b.length
  · have := G hb ha hlb (by omega)
    rw [Nat.add_comm] at this
    exact Ev.congr (fun k => if_pos h) this
  · exact Ev.congr (fun k => if_neg h) (G ha hb hla (by omega))
theorem dg_set (l : List Int) (i j v : Nat) (h : i < l.length) : dg (l.set i (v : Int)) j = if i = j then v else dg l j := by
  unfold dg
  rw [rd_set _ _ _ _ h]
  by_cases e : i = j
  · rw [if_pos e, if_pos e]; rfl
  · rw [if_neg e, if_neg e]
theorem val_dset {l : List Int} (i v : Nat) (h : i < l.length) : val (l.set i (v : Int)) + 4294967296 ^ i * dg l i = val l + 4294967296 ^ i * v := by
  have := val_set l i (v : Int) h
  unfold dg
  simpa using this
theorem dg_replicate (n j : Nat) : dg (List.replicate n 0) j = 0 := by unfold dg; rw [rd_replicate]; rfl
theorem refadd_l0 {a b : List Int} (ha : W a) (hb : W b) (n : Nat) (hn : n < 35184372088833) (hla : a.length < n) (hlb : b.length < n) : ∀ (d i : Nat), i + d = n → ∀ (x : List Int) (c : Nat), c ≤ 1 → W x → x.length = n → (∀ j, i ≤ j → dg x j = 0) → val x + 4294967296 ^ i * c = val (a.take i) + val (b.take i) →
    Ev (fun k => apostilleref7_Add.l0 k a b (n : Int) x (c : Int) (i : Int)) (nm (val a + val b)) := by
  intro d
  induction d with
  | zero =>
    intro i hi x c hc hw hx _ hv
    obtain rfl : i = n := by omega
    rw [List.take_of_length_le (by omega), List.take_of_length_le (by omega)] at hv
    have hc0 : val x = val a + val b := by
      have h1 := val_lt ha
      have h2 := val_lt hb
      have h3 : 4294967296 ^ a.length ≤ 4294967296 ^ (i - 1) := Nat.pow_le_pow_right (by omega) (by omega)
      have h4 : 4294967296 ^ b.length ≤ 4294967296 ^ (i - 1) := Nat.pow_le_pow_right (by omega) (by omega)
      have h5 : (4294967296 : Nat) ^ i = 4294967296 * 4294967296 ^ (i - 1) := by rw [← pow_succ', show i - 1 + 1 = i by omega]
      have h6 : c = 0 := by
        rcases Nat.eq_zero_or_pos c with h | h
        · exact h
        · obtain rfl : c = 1 := by omega
          omega
      subst h6
      simpa using hv
    refine Ev.step (f := fun k => (apostilleref7_Trim.f k x).bind fun t => some t) (fun k => ?_) ?_
    · simp only [apostilleref7_Add.l0]
      rw [if_neg (by omega)]
    · rw [← hc0]
      exact Ev.bind (f := fun _ t => some t) (trimf hw (by omega)) (Ev.now _)
  | succ d ih =>
    intro i hi x c hc hw hx hz hv
    have hx1 := dg_lt ha i
    have hy1 := dg_lt hb i
    have hi3 : i + 1 + d = n := by omega
    have c1 : (i : Int) < (n : Int) := by omega
    have c2 : (0 : Int) ≤ (i : Int) := by omega
    have c3 : (i : Int) < (x.length : Int) := by omega
    have c4 : i < x.length := by omega
    have hbi : i < 4611686018427387904 := by omega
    have hc2 : (dg a i + dg b i + c) / 4294967296 ≤ 1 := by omega
    have hr : (dg a i + dg b i + c) % 4294967296 < 4294967296 := by omega
    have hs := add_step (4294967296 ^ i) (val (a.take i)) (val (b.take i)) (dg a i) (dg b i) c (val x) hv
    have ew : IntKind.u64.wrap (IntKind.u64.wrap ((dg a i : Int) + (dg b i : Int)) + (c : Int)) = ((dg a i + dg b i + c : Nat) : Int) := by rw [wu64, wu64]; omega
    have e1 : ((dg a i + dg b i + c : Nat) : Int) % 4294967296 = (((dg a i + dg b i + c) % 4294967296 : Nat) : Int) := by omega
    have e2 : ((dg a i + dg b i + c : Nat) : Int) / 4294967296 = (((dg a i + dg b i + c) / 4294967296 : Nat) : Int) := by omega
    refine Ev.step (fun k => ?_) (ih (i + 1) hi3 (x.set i (((dg a i + dg b i + c) % 4294967296 : Nat) : Int)) ((dg a i + dg b i + c) / 4294967296) hc2 (W_set hw _ _ (by omega) (by omega)) (by rw [List.length_set]; exact hx) ?_ ?_)
    · simp only [apostilleref7_Add.l0]
      rw [if_pos c1, digitN ha, digitN hb]
      simp only [Option.bind_some]
      rw [if_pos c2, if_pos c3, wsucc i hbi, ew, e1, e2]
      rfl
    · intro j hj
      rw [dg_set _ _ _ _ c4, if_neg (by omega), hz j (by omega)]
    · have h6 := val_dset (l := x) i ((dg a i + dg b i + c) % 4294967296) c4
      rw [hz i (Nat.le_refl _), Nat.mul_zero, Nat.add_zero] at h6
      rw [h6, (take_dg ha i).1, (take_dg hb i).1, pow_succ']
      exact hs
theorem refaddN {a b : List Int} (ha : W a) (hb : W b) (hla : a.length < 35184372088832) (hlb : b.length < 35184372088832) : Ev (fun k => apostilleref7_Add.f k a b) (nm (val a + val b)) := by
  obtain ⟨n, hn, h1, h2⟩ : ∃ n : Nat, wrap64 ((mx (a.length : Int) (b.length : Int)) + 1) = (n : Int) ∧ a.length < n ∧ b.length < n ∧ n < 35184372088833 := by
    unfold mx
    by_cases h : (a.length : Int) < (b.length : Int)
    · rw [if_pos h]; exact ⟨b.length + 1, wsucc _ (by omega), by omega, by omega, by omega⟩
    · rw [if_neg h]; exact ⟨a.length + 1, wsucc _ (by omega), by omega, by omega, by omega⟩
  obtain ⟨h2, h3⟩ := h2
  have := refadd_l0 ha hb n h3 h1 h2 n 0 (by omega) (List.replicate n 0) 0 (by omega) (W_replicate n) (by simp) (fun j _ => dg_replicate n j) (by rw [val_replicate]; simp [val])
  refine Ev.congr (fun k => ?_) this
  unfold apostilleref7_Add.f
  rw [hn, if_pos (by omega), if_pos (by omega)]
  rfl

/-! Cmp -/
theorem compare_int (a b : Int) : cmp_Compare_int.f a b = some (if a < b then -1 else if a > b then 1 else 0) := by
  unfold cmp_Compare_int.f cmp_isNaN_int.f
  simp only [Option.bind_some, bne_self_eq_false, Bool.false_eq_true, if_false]
  split
  · rfl
  · split <;> rfl
theorem compare_uint32 (a b : Int) : cmp_Compare_uint32.f a b = some (if a < b then -1 else if a > b then 1 else 0) := by
  unfold cmp_Compare_uint32.f cmp_isNaN_uint32.f
  simp only [Option.bind_some, bne_self_eq_false, Bool.false_eq_true, if_false]
  split
  · rfl
  · split <;> rfl
theorem cmp_l0 {a b : List Int} (ha : W a) (hb : W b) (hl : a.length = b.length) (hm : a.length < 140737488355328) : ∀ i : Nat, i ≤ a.length →
    Ev (fun k => nat_Cmp.l0 k a b ((i : Int) - 1)) (cmpv (val (a.take i)) (val (b.take i))) := by
  intro i
  induction i with
  | zero =>
    intro _
    refine Ev.step (f := fun _ => some 0) (fun k => ?_) (Ev.now _)
    simp only [nat_Cmp.l0]
    rw [if_neg (by omega)]
  | succ i ih =>
    intro hi
    have w : wrap64 ((i : Int) - 1) = (i : Int) - 1 := w64 _ (by omega) (by omega)
    have e : ((i + 1 : Nat) : Int) - 1 = (i : Int) := by omega
    rw [cmp_step ha hb i (by omega) (by omega), e]
    by_cases h : rd a (i : Int) = rd b (i : Int)
    · rw [if_pos h]
      refine Ev.step (fun k => ?_) (ih (by omega))
      simp only [nat_Cmp.l0, w]
      rw [if_pos (by omega), if_pos (by omega), if_pos (by omega), if_pos (by omega), if_pos h]
    · rw [if_neg h]
      refine Ev.step (f := fun _ => if rd a (i : Int) < rd b (i : Int) then some (-1) else some 1) (fun k => ?_) ?_
      · simp only [nat_Cmp.l0, w]
        rw [if_pos (by omega), if_pos (by omega), if_pos (by omega), if_pos (by omega), if_neg h, compare_uint32, Option.bind_some]
        by_cases h2 : rd a (i : Int) < rd b (i : Int)
        · rw [if_pos h2, if_pos h2]
        · rw [if_neg h2, if_neg h2, if_pos (by omega)]
      · by_cases h2 : rd a (i : Int) < rd b (i : Int)
        · rw [if_pos h2]; exact Ev.congr (fun k => by rw [if_pos h2]) (Ev.now _)
        · rw [if_neg h2]; exact Ev.congr (fun k => by rw [if_neg h2]) (Ev.now _)
theorem cmpN {a b : List Int} (ha : Canon a) (hb : Canon b) (hm : a.length < 140737488355328) : Ev (fun k => nat_Cmp.f k a b) (cmpv (val a) (val b)) := by
  unfold nat_Cmp.f
  by_cases h : a.length = b.length
  · have := cmp_l0 ha.1 hb.1 h hm a.length (Nat.le_refl _)
    rw [List.take_of_length_le (Nat.le_refl _), List.take_of_length_le (by omega)] at this
    exact Ev.congr (fun k => by rw [if_pos (by omega), w64 _ (by omega) (by omega)]) this
  · by_cases h2 : a.length < b.length
    · have := canon_len_lt ha hb h2
      refine Ev.congr (f := fun _ => some (-1)) (fun k => by rw [if_neg (by omega), compare_int, Option.bind_some, if_pos (by omega)]) ?_
      unfold cmpv
      rw [if_neg (by omega), if_pos this]; exact Ev.now _
    · have := canon_len_lt hb ha (by omega)
      refine Ev.congr (f := fun _ => some 1) (fun k => by rw [if_neg (by omega), compare_int, Option.bind_some, if_neg (by omega), if_pos (by omega)]) ?_
      unfold cmpv
      rw [if_neg (by omega), if_neg (by omega)]; exact Ev.now _

/-! Sub -/
theorem sub_step (z s t x y c u : Nat) (hx : x < 4294967296) (hy : y < 4294967296) (hc : c ≤ 1) (h : s + z * c = u + t) :
    (s + z * x) + (4294967296 * z) * (if x < y + c then 1 else 0) = (u + z * ((x + 4294967296 - y - c) % 4294967296)) + (t + z * y) := by
  by_cases h1 : x < y + c
  · rw [if_pos h1, show (x + 4294967296 - y - c) % 4294967296 = x + 4294967296 - y - c by omega]
    obtain ⟨r, hr⟩ : ∃ r, r = x + 4294967296 - y - c := ⟨_, rfl⟩
    rw [← hr]
    have e : z * (x + 4294967296) = z * (r + y + c) := by rw [show x + 4294967296 = r + y + c by omega]
    rw [Nat.mul_add, Nat.mul_add, Nat.mul_add] at e
    rw [Nat.mul_one, Nat.mul_comm 4294967296 z]
    omega
  · rw [if_neg h1, show (x + 4294967296 - y - c) % 4294967296 = x - y - c by omega]
    obtain ⟨r, hr⟩ : ∃ r, r = x - y - c := ⟨_, rfl⟩
    rw [← hr]
    have e : z * x = z * (r + y + c) := by rw [show x = r + y + c by omega]
    rw [Nat.mul_add, Nat.mul_add] at e
    rw [Nat.mul_zero]
    omega
theorem sub_l0 {a b : List Int} (ha : W a) (hb : W b) (hl : a.length < 35184372088832) (hlb : b.length ≤ a.length) (hge : val b ≤ val a) : ∀ (d i : Nat), i + d = a.length → ∀ (x : List Int) (c : Nat), c ≤ 1 → W x → x.length = i → val (a.take i) + 4294967296 ^ i * c = val x + val (b.take i) →
    Ev (fun k => nat_Sub.l0 k b x (c : Int) a (a.length : Int) (i : Int)) (nm (val a - val b), true) := by
  intro d
  induction d with
  | zero =>
    intro i hi x c hc hw hx hv
    obtain rfl : i = a.length := by omega
    rw [List.take_of_length_le (Nat.le_refl _), List.take_of_length_le hlb] at hv
    have hxl := val_lt hw
    rw [hx] at hxl
    have hc0 : val x = val a - val b := by
      rcases Nat.eq_zero_or_pos c with h | h
      · subst h; omega
      · obtain rfl : c = 1 := by omega
        omega
    refine Ev.step (f := fun k => (nat_plain.f k x).bind fun t => some (t, true)) (fun k => ?_) ?_
    · simp only [nat_Sub.l0]
      rw [if_neg (by omega)]
    · rw [← hc0]
      exact Ev.bind (f := fun _ t => some (t, true)) (plainf hw (by omega)) (Ev.now _)
  | succ d ih =>
    intro i hi x c hc hw hx hv
    have hx1 := dg_lt ha i
    have hy1 := dg_lt hb i
    have hi3 : i + 1 + d = a.length := by omega
    have c1 : (i : Int) < (a.length : Int) := by omega
    have c2 : (0 : Int) ≤ (i : Int) := by omega
    have c3 : x.length < 35184372088832 := by omega
    have hbi : i < 4611686018427387904 := by omega
    have hc2 : (if dg a i < dg b i + c then 1 else 0) ≤ 1 := by split <;> omega
    have hr : (dg a i + 4294967296 - dg b i - c) % 4294967296 < 4294967296 := by omega
    have hs := sub_step (4294967296 ^ i) (val (a.take i)) (val (b.take i)) (dg a i) (dg b i) c (val x) hx1 hy1 hc hv
    refine Ev.step (fun k => ?_) (ih (i + 1) hi3 (x ++ [(((dg a i + 4294967296 - dg b i - c) % 4294967296 : Nat) : Int)]) (if dg a i < dg b i + c then 1 else 0) hc2 (W_snoc hw _ hr) (by simp; omega) ?_)
    · simp only [nat_Sub.l0]
      rw [if_pos c1, if_pos c2, if_pos c1, wsucc i hbi, rd_dg ha]
      by_cases h : i < b.length
      · rw [if_pos (by omega), rd_dg hb, sub32 _ _ _ hx1 hy1 hc]
        simp only [Option.bind_some]
        rw [if_pos c3]
      · rw [if_neg (by omega), show (0 : Int) = (dg b i : Int) by rw [dg_over b i (by omega)]; rfl, sub32 _ _ _ hx1 hy1 hc]
        simp only [Option.bind_some]
        rw [if_pos c3]
    · rw [val_snoc, hx, (take_dg ha i).1, (take_dg hb i).1, pow_succ']
      exact hs
theorem canon_len_le {a b : List Int} (ha : Canon a) (hb : Canon b) (h : val b ≤ val a) : b.length ≤ a.length := by
  by_cases c : a.length < b.length
  · have := canon_len_lt ha hb c
    omega
  · omega
def subR (a b : Nat) : List Int × Bool := if a < b then ([], false) else (nm (a - b), true)
theorem subN {a b : List Int} (ha : Canon a) (hb : Canon b) (hla : a.length < 35184372088832) : Ev (fun k => nat_Sub.f k a b) (subR (val a) (val b)) := by
  refine Ev.bind (f := fun k t209 => (if t209 < 0 then (some (([] : List Int), false)) else (if 0 ≤ (a.length : Int) then (if ((a.length : Int) : Int).toNat ≤ 70368744177664 then (nat_Sub.l0 k b (List.replicate 0 0) 0 a (a.length : Int) 0) else (none)) else (none)))) (cmpN ha hb (by omega)) ?_
  unfold subR
  by_cases h : val a < val b
  · rw [if_pos h]
    exact Ev.congr (f := fun _ => some ([], false)) (fun k => by rw [if_pos (by unfold cmpv; rw [if_neg (by omega), if_pos h]; omega)]) (Ev.now _)
  · rw [if_neg h]
    have := sub_l0 ha.1 hb.1 hla (canon_len_le ha hb (by omega)) (by omega) a.length 0 (by omega) [] 0 (by omega) W_nil rfl (by simp [val])
    refine Ev.congr (fun k => ?_) this
    rw [if_neg (by unfold cmpv; rw [if_neg h]; split <;> omega), if_pos (by omega), if_pos (by omega)]
    rfl
theorem refsub_ar (x y c : Nat) (hx : x < 4294967296) (hy : y < 4294967296) (hc : c ≤ 1) :
    IntKind.u64.wrap (IntKind.u64.wrap (IntKind.u64.wrap ((x : Int) + 4294967296) - (y : Int)) - (c : Int)) = ((x + 4294967296 - y - c : Nat) : Int) ∧
    ((x + 4294967296 - y - c : Nat) : Int) % 4294967296 = (((x + 4294967296 - y - c) % 4294967296 : Nat) : Int) ∧
    IntKind.u64.wrap (1 - ((x + 4294967296 - y - c : Nat) : Int) / 4294967296) = (((if x < y + c then 1 else 0) : Nat) : Int) := by
  refine ⟨?_, ?_, ?_⟩
  · rw [wu64, wu64, wu64]; omega
  · omega
  · rw [wu64]
    by_cases h : x < y + c
    · rw [if_pos h]; omega
    · rw [if_neg h]; omega
theorem refsub_l0 {a b : List Int} (ha : W a) (hb : W b) (hl : a.length < 35184372088832) (hlb : b.length ≤ a.length) (hge : val b ≤ val a) : ∀ (d i : Nat), i + d = a.length → ∀ (x : List Int) (c : Nat), c ≤ 1 → W x → x.length = a.length → (∀ j, i ≤ j → dg x j = 0) → val (a.take i) + 4294967296 ^ i * c = val x + val (b.take i) → val x < 4294967296 ^ i →
    Ev (fun k => apostilleref7_Sub.l0 k a b x (c : Int) (i : Int)) (nm (val a - val b), true) := by
  intro d
  induction d with
  | zero =>
    intro i hi x c hc hw hx _ hv hxl
    obtain rfl : i = a.length := by omega
    rw [List.take_of_length_le (Nat.le_refl _), List.take_of_length_le hlb] at hv
    have hc0 : val x = val a - val b := by
      rcases Nat.eq_zero_or_pos c with h | h
      · subst h; omega
      · obtain rfl : c = 1 := by omega
        omega
    refine Ev.step (f := fun k => (apostilleref7_Trim.f k x).bind fun t => some (t, true)) (fun k => ?_) ?_
    · simp only [apostilleref7_Sub.l0]
      rw [if_neg (by omega)]
    · rw [← hc0]
      exact Ev.bind (f := fun _ t => some (t, true)) (trimf hw (by omega)) (Ev.now _)
  | succ d ih =>
    intro i hi x c hc hw hx hz hv hxl
    have hx1 := dg_lt ha i
    have hy1 := dg_lt hb i
    have hi3 : i + 1 + d = a.length := by omega
    have c1 : (i : Int) < (a.length : Int) := by omega
    have c2 : (0 : Int) ≤ (i : Int) := by omega
    have c3 : (i : Int) < (x.length : Int) := by omega
    have c4 : i < x.length := by omega
    have hbi : i < 4611686018427387904 := by omega
    have hc2 : (if dg a i < dg b i + c then 1 else 0) ≤ 1 := by split <;> omega
    have hr : (dg a i + 4294967296 - dg b i - c) % 4294967296 < 4294967296 := by omega
    have hs := sub_step (4294967296 ^ i) (val (a.take i)) (val (b.take i)) (dg a i) (dg b i) c (val x) hx1 hy1 hc hv
    have h6 := val_dset (l := x) i ((dg a i + 4294967296 - dg b i - c) % 4294967296) c4
    rw [hz i (Nat.le_refl _), Nat.mul_zero, Nat.add_zero] at h6
    refine Ev.step (fun k => ?_) (ih (i + 1) hi3 (x.set i (((dg a i + 4294967296 - dg b i - c) % 4294967296 : Nat) : Int)) (if dg a i < dg b i + c then 1 else 0) hc2 (W_set hw _ _ (by omega) (by omega)) (by rw [List.length_set]; exact hx) ?_ ?_ ?_)
    · obtain ⟨ew, e1, e2⟩ := refsub_ar (dg a i) (dg b i) c hx1 hy1 hc
      simp only [apostilleref7_Sub.l0]
      rw [if_pos c1, digitN ha, digitN hb]
      simp only [Option.bind_some]
      rw [if_pos c2, if_pos c3, wsucc i hbi, ew, e1, e2]
      rfl
    · intro j hj
      rw [dg_set _ _ _ _ c4, if_neg (by omega), hz j (by omega)]
    · rw [h6, (take_dg ha i).1, (take_dg hb i).1, pow_succ']
      exact hs
    · rw [h6, pow_succ']
      have : 4294967296 ^ i * ((dg a i + 4294967296 - dg b i - c) % 4294967296) ≤ 4294967296 ^ i * 4294967295 := Nat.mul_le_mul_left _ (by omega)
      omega
theorem refsubN {a b : List Int} (ha : Canon a) (hb : Canon b) (hla : a.length < 35184372088832) : Ev (fun k => apostilleref7_Sub.f k a b) (subR (val a) (val b)) := by
  refine Ev.bind (f := fun k t211 => (if t211 < 0 then (some (([] : List Int), false)) else (if 0 ≤ (a.length : Int) then (if ((a.length : Int) : Int).toNat ≤ 70368744177664 then (apostilleref7_Sub.l0 k a b (List.replicate ((a.length : Int) : Int).toNat 0) 0 0) else (none)) else (none)))) (refcmp ha hb (by omega)) ?_
  unfold subR
  by_cases h : val a < val b
  · rw [if_pos h]
    exact Ev.congr (f := fun _ => some ([], false)) (fun k => by rw [if_pos (by unfold cmpv; rw [if_neg (by omega), if_pos h]; omega)]) (Ev.now _)
  · rw [if_neg h]
    have := refsub_l0 ha.1 hb.1 hla (canon_len_le ha hb (by omega)) (by omega) a.length 0 (by omega) (List.replicate a.length 0) 0 (by omega) (W_replicate _) (by simp) (fun j _ => dg_replicate _ j) (by rw [val_replicate]; simp [val]) (by rw [val_replicate]; exact pow_pos' _)
    refine Ev.congr (fun k => ?_) this
    rw [if_neg (by unfold cmpv; rw [if_neg h]; split <;> omega), if_pos (by omega), if_pos (by omega)]
    rfl
end Go.Proofs.Ytlmjbhhapllfgaa.V
