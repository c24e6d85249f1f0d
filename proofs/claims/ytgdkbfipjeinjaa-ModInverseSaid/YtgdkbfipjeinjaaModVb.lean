/- Numbers that go round: inverses; which numbers are asked; sameness. -/
import Derived.Test.YtgdkbfipjeinjaaAx0
import Derived.Test.YtgdkbfipjeinjaaAx1
import Derived.Test.YtgdkbfipjeinjaaAx10
import Derived.Test.YtgdkbfipjeinjaaAx14
import Derived.Test.YtgdkbfipjeinjaaAx15
import Derived.Test.YtgdkbfipjeinjaaAx17
import Derived.Test.YtgdkbfipjeinjaaAx18
import Derived.Test.YtgdkbfipjeinjaaAx6
import Derived.Test.YtgdkbfipjeinjaaAx7
import Derived.Test.YtgdkbfipjeinjaaAx9
import Derived.Test.YtgdkbfipjeinjaaModVa
namespace Go.Proofs.Ytgdkbfipjeinjaa.V
open Go.RowKit Go.Proofs.Ytgdkbfipjeinjaa.A Go.Proofs.YtgdkbfipjeinjaaW.PrintWords Go.Proofs.YtgdkbfipjeinjaaW.PrintLast
set_option linter.unusedVariables false
set_option linter.unusedSimpArgs false

theorem refisM {l : List Int} (h : l.length < 140737488355328) : apostilleref7_Is.f l = some (isb l) := by
  unfold apostilleref7_Is.f isb
  by_cases h1 : l.length ≤ 256
  · rw [if_pos (by omega)]
    by_cases h2 : l.length = 0
    · rw [if_pos (by omega)]; simp [h2]
    · rw [if_neg (by omega), w64 _ (by omega) (by omega), if_pos (by omega), if_pos (by omega)]
      simp only [h1, h2, bne, decide_true, decide_false, Bool.true_and, Bool.false_or]
      congr 1
      rw [Bool.eq_iff_iff]
      simp
  · rw [if_neg (by omega)]; simp [h1]
/-- may they be, and are they not too long? -/
def sb (n : Nat) (x : List Int) : Bool := isb x && decide (x.length ≤ n)
theorem such_l0 (n : Nat) (l : List (List Int)) (hl : ∀ x ∈ l, x.length < 140737488355328) (hn : l.length < 1000) : ∀ (d i : Nat), i + d = l.length → Ev (fun k => apostillelaw8_such.l0 k (n : Int) l (i : Int)) ((l.drop i).all (sb n)) := by
  intro d
  induction d with
  | zero =>
    intro i hi
    rw [List.drop_of_length_le (by omega)]
    refine Ev.step (f := fun _ => some true) (fun k => ?_) (Ev.now _)
    simp only [apostillelaw8_such.l0]
    exact if_neg (by omega)
  | succ d ih =>
    intro i hi
    have h : i < l.length := by omega
    have e : l.drop i = l[i] :: l.drop (i + 1) := List.drop_eq_getElem_cons h
    have hx : rd_L1 l (i : Int) = l[i] := by simp [rd_L1, h]
    have hz := refisM (hl _ (List.getElem_mem h))
    have c1 : (i : Int) < (l.length : Int) := Int.ofNat_lt.mpr h
    have c2 : (0 : Int) ≤ (i : Int) := Int.natCast_nonneg _
    rw [e, List.all_cons]
    unfold sb
    by_cases h1 : isb l[i] = true
    · by_cases h2 : l[i].length ≤ n
      · refine Ev.step (fun k => ?_) (Ev.congr (f := fun k => apostillelaw8_such.l0 k (n : Int) l ((i + 1 : Nat) : Int)) (fun k => rfl) (by
          have := ih (i + 1) (by omega)
          rw [h1]
          simp only [h2, decide_true, Bool.and_self, Bool.true_and]
          exact this))
        simp only [apostillelaw8_such.l0, hx, hz, Option.bind_some]
        rw [if_pos c1, if_pos c2, if_pos h1, if_neg (by omega), wsucc i (by omega)]
      · refine Ev.step (f := fun _ => some false) (fun k => ?_) (Ev.congr (fun k => by simp [h2]) (Ev.now _))
        simp only [apostillelaw8_such.l0, hx, hz, Option.bind_some]
        rw [if_pos c1, if_pos c2, if_pos h1, if_pos (by omega)]
    · refine Ev.step (f := fun _ => some false) (fun k => ?_) (Ev.congr (fun k => by simp [h1]) (Ev.now _))
      simp only [apostillelaw8_such.l0, hx, hz, Option.bind_some]
      rw [if_pos c1, if_pos c2, if_neg h1]
theorem suchV (n : Nat) (l : List (List Int)) (hl : ∀ x ∈ l, x.length < 140737488355328) (hn : l.length < 1000) : Ev (fun k => apostillelaw8_such.f k (n : Int) l) (l.all (sb n)) := by
  have := such_l0 n l hl hn l.length 0 (by omega)
  rwa [List.drop_zero] at this
theorem sb_canon {n : Nat} {l : List Int} (hw : W l) (h : sb n l = true) : ∃ A : Nat, l = nm A ∧ nl A ≤ n := by
  unfold sb at h
  simp only [Bool.and_eq_true, decide_eq_true_eq] at h
  have hc := canon_eq (isb_canon hw h.1).1
  exact ⟨val l, hc, by unfold nl; rw [← hc]; exact h.2⟩
theorem sameV (A : Nat) (h : nl A < 40000) : Ev (fun k => apostillelaw8_same.f k (nm A) (nm A)) true := by
  unfold apostillelaw8_same.f
  refine Ev.congr (fun k => if_pos rfl) ?_
  have := refcmpV A A h
  have e : cmpv A A = 0 := if_pos rfl
  rw [e] at this
  exact Ev.bind (f := fun _ t => some (t == 0)) this (Ev.now _)
theorem same0 : Ev (fun k => apostillelaw8_same.f k ([] : List Int) ([] : List Int)) true := by
  have := sameV 0 (by rw [nl_zero]; decide)
  rwa [nm_zero] at this
theorem mknown : Ev (fun k => apostillelaw8_known.f k) true := Ev.of (fun k => apostillelaw8_known.mono k) (k := 120) (by kernel_rfl)
theorem mknown1 : Ev (fun k => (apostillelaw8_known.f k).bind fun t => some t) true := Ev.bind (f := fun _ t => some t) mknown (Ev.now _)

/-! inverses -/
def eu (m r s x y : Nat) : Nat × Nat := if h : s = 0 then (r, x) else eu m s (r % s) y (sv x (r / s * y % m) m)
termination_by s
decreasing_by exact Nat.mod_lt _ (by omega)
theorem eu_zero (m r x y : Nat) : eu m r 0 x y = (r, x) := by rw [eu]; simp
theorem eu_pos (m r s x y : Nat) (h : 0 < s) : eu m r s x y = eu m s (r % s) y (sv x (r / s * y % m) m) := by
  rw [eu, dif_neg (by omega)]
theorem eu_lt (m : Nat) (hm : 0 < m) : ∀ (s r x y : Nat), x < m → y < m → (eu m r s x y).2 < m := by
  intro s
  induction s using Nat.strongRecOn with
  | ind s ih =>
    intro r x y hx hy
    rcases Nat.eq_zero_or_pos s with h | h
    · subst h; rw [eu_zero]; exact hx
    · rw [eu_pos _ _ _ _ _ h]
      exact ih _ (Nat.mod_lt _ h) _ _ _ hy (sv_lt _ _ _ hm)
theorem step_dvd (m x y r s q a d c1 c2 t : Int) (h1 : x * a - (q * s + r) = m * c1) (h2 : y * a - s = m * c2) (hd : d = x - q * y + m * t) : d * a - r = m * (c1 - q * c2 + t * a) := by grind
theorem sv_int (x z m : Nat) (hm : 0 < m) : ∃ t : Int, (sv x (z % m) m : Int) = (x : Int) - (z : Int) + (m : Int) * t := by
  have h1 := Nat.div_add_mod x m
  have h2 := Nat.div_add_mod z m
  have h3 := Nat.mod_lt z hm
  have e1 : (x : Int) = (m : Int) * (x / m : Nat) + (x % m : Nat) := by rw [← Int.natCast_mul, ← Int.natCast_add, h1]
  have e2 : (z : Int) = (m : Int) * (z / m : Nat) + (z % m : Nat) := by rw [← Int.natCast_mul, ← Int.natCast_add, h2]
  unfold sv
  rw [Nat.mod_mod]
  by_cases hc : z % m ≤ x % m
  · rw [if_pos hc]
    refine ⟨(z / m : Nat) - (x / m : Nat), ?_⟩
    rw [Int.mul_sub, Int.natCast_sub hc]
    omega
  · rw [if_neg hc]
    refine ⟨(z / m : Nat) - (x / m : Nat) + 1, ?_⟩
    rw [Int.mul_add, Int.mul_sub, Int.mul_one, Int.natCast_sub (by omega), Int.natCast_add]
    omega
theorem eu_inv (m a : Nat) (hm : 0 < m) : ∀ (s r x y : Nat) (c1 c2 : Int), (x : Int) * a - r = m * c1 → (y : Int) * a - s = m * c2 → ∃ c : Int, ((eu m r s x y).2 : Int) * a - (eu m r s x y).1 = m * c := by
  intro s
  induction s using Nat.strongRecOn with
  | ind s ih =>
    intro r x y c1 c2 h1 h2
    rcases Nat.eq_zero_or_pos s with h | h
    · subst h; rw [eu_zero]; exact ⟨c1, h1⟩
    · rw [eu_pos _ _ _ _ _ h]
      obtain ⟨t, ht⟩ := sv_int x (r / s * y) m hm
      have er : (r : Int) = (r / s : Nat) * (s : Int) + (r % s : Nat) := by
        have := Nat.div_add_mod r s
        rw [Nat.mul_comm] at this
        rw [← Int.natCast_mul, ← Int.natCast_add, this]
      rw [er] at h1
      have := step_dvd (m : Int) x y (r % s : Nat) s (r / s : Nat) a (sv x (r / s * y % m) m : Nat) c1 c2 t h1 h2 (by rw [ht, Int.natCast_mul])
      exact ih (r % s) (Nat.mod_lt _ h) s y _ c2 _ h2 this
theorem eu_one (m a : Nat) (hm : 2 ≤ m) (h : (eu m m (a % m) 0 1).1 = 1) : a * (eu m m (a % m) 0 1).2 % m = 1 := by
  have e1 : ((0 : Nat) : Int) * a - m = m * (-1) := by rw [Int.natCast_zero, Int.zero_mul]; omega
  have e2 : ((1 : Nat) : Int) * a - (a % m : Nat) = m * (a / m : Nat) := by
    have := Nat.div_add_mod a m
    have e : (a : Int) = (m : Int) * (a / m : Nat) + (a % m : Nat) := by rw [← Int.natCast_mul, ← Int.natCast_add, this]
    rw [Int.natCast_one, Int.one_mul]
    omega
  obtain ⟨c, hc⟩ := eu_inv m a (by omega) (a % m) m 0 1 _ _ e1 e2
  rw [h] at hc
  have e3 : ((a * (eu m m (a % m) 0 1).2 : Nat) : Int) = 1 + m * c := by rw [Int.natCast_mul, Int.mul_comm]; omega
  have e4 : ((a * (eu m m (a % m) 0 1).2 : Nat) : Int) % m = 1 := by
    rw [e3, Int.add_mul_emod_self_left]
    exact Int.emod_eq_of_lt (by omega) (by omega)
  rw [← Int.natCast_emod] at e4
  omega
/-- what an inverse comes to -/
def inv (a m : Nat) : List Int × Bool := if m ≤ 1 then ([], false) else if (eu m m (a % m) 0 1).1 = 1 then (nm (eu m m (a % m) 0 1).2, true) else ([], false)
theorem cmp1 (r : Nat) : cmpv r 1 = 0 ↔ r = 1 := by
  unfold cmpv
  by_cases h : r = 1
  · simp [h]
  · rw [if_neg h]; split <;> simp [h]
theorem minv_l0 (m : Nat) (hm : 2 ≤ m) (h3 : nl m < 10000) : ∀ (s r x y : Nat), nl r < 10000 → nl s < 10000 → x < m → y < m →
    Ev (fun k => mod_Inv.l0 k (nm m) (nm 1) (nm r) (nm x) (nm s) (nm y)) (if (eu m r s x y).1 = 1 then (nm (eu m r s x y).2, true) else ([], false)) := by
  intro s
  induction s using Nat.strongRecOn with
  | ind s ih =>
    intro r x y hr hs hx hy
    have hnx := nl_le (Nat.le_of_lt hx)
    have hny := nl_le (Nat.le_of_lt hy)
    rcases Nat.eq_zero_or_pos s with h | h
    · subst h
      rw [eu_zero]
      refine Ev.step (f := fun k => (nat_Cmp.f k (nm r) (nm 1)).bind fun t497 => (if t497 = 0 then ((mod_rest.f k (nm x) (nm m)).bind fun bt498 => (some (bt498.1, bt498.2))) else (some (([] : List Int), false)))) (fun k => ?_) ?_
      · simp only [mod_Inv.l0]
        exact if_neg (by rw [nm_zero]; decide)
      · refine Ev.bind (f := fun k t497 => _) (cmpV r 1 (by omega)) ?_
        by_cases h1 : r = 1
        · rw [if_pos h1]
          have := restV x m (by omega) (by omega)
          rw [mr_pos (by omega), Nat.mod_eq_of_lt hx] at this
          refine Ev.congr (fun k => if_pos ((cmp1 r).mpr h1)) ?_
          exact Ev.bind (f := fun _ bt => some (bt.1, bt.2)) this (Ev.now _)
        · rw [if_neg h1]
          exact Ev.congr (f := fun _ => some (([] : List Int), false)) (fun k => if_neg (fun hh => h1 ((cmp1 r).mp hh))) (Ev.now _)
    · have hq : nl (r / s) ≤ nl r := nl_le (Nat.div_le_self _ _)
      have hrs := nl_mod r s h
      have hz : r / s * y % m < m := Nat.mod_lt _ (by omega)
      have hnz := nl_le (Nat.le_of_lt hz)
      have m1 := mmulV (r / s) y m (by omega) (by omega) (by omega)
      rw [mr_pos (by omega)] at m1
      have m2 := msubV x (r / s * y % m) m (by omega) (by omega) (by omega)
      unfold ms at m2
      rw [if_neg (by omega)] at m2
      rw [eu_pos _ _ _ _ _ h]
      refine Ev.step (f := fun k => ((nat_Div.f k (nm r) (nm s)).bind fun bt482 => ((mod_Mul.f k bt482.1 (nm y) (nm m)).bind fun bt489 => ((mod_Sub.f k (nm x) bt489.1 (nm m)).bind fun bt493 => (mod_Inv.l0 k (nm m) (nm 1) (nm s) (nm y) bt482.2.1 bt493.1))))) (fun k => ?_) ?_
      · simp only [mod_Inv.l0]
        exact if_pos (by have := nl_pos h; unfold nl at this; omega)
      · have ih' := ih (r % s) (Nat.mod_lt _ h) s y (sv x (r / s * y % m) m) hs (by omega) hy (sv_lt _ _ _ (by omega))
        generalize (if (eu m s (r % s) y (sv x (r / s * y % m) m)).1 = 1 then (nm (eu m s (r % s) y (sv x (r / s * y % m) m)).2, true) else ([], false)) = R at ih' ⊢
        have b3 : Ev (fun k => (mod_Sub.f k (nm x) (nm (r / s * y % m)) (nm m)).bind fun bt493 => mod_Inv.l0 k (nm m) (nm 1) (nm s) (nm y) (nm (r % s)) bt493.1) R := Ev.bind (f := fun k => fun bt493 => mod_Inv.l0 k (nm m) (nm 1) (nm s) (nm y) (nm (r % s)) bt493.1) m2 ih'
        have b2 : Ev (fun k => (mod_Mul.f k (nm (r / s)) (nm y) (nm m)).bind fun bt489 => (mod_Sub.f k (nm x) bt489.1 (nm m)).bind fun bt493 => mod_Inv.l0 k (nm m) (nm 1) (nm s) (nm y) (nm (r % s)) bt493.1) R := Ev.bind (a := (nm (r / s * y % m), true)) (f := fun k => fun bt489 => (mod_Sub.f k (nm x) bt489.1 (nm m)).bind fun bt493 => mod_Inv.l0 k (nm m) (nm 1) (nm s) (nm y) (nm (r % s)) bt493.1) m1 b3
        exact Ev.bind (f := fun k bt482 => (mod_Mul.f k bt482.1 (nm y) (nm m)).bind fun bt489 => (mod_Sub.f k (nm x) bt489.1 (nm m)).bind fun bt493 => mod_Inv.l0 k (nm m) (nm 1) (nm s) (nm y) bt482.2.1 bt493.1) (divV r s (by omega) (by omega) h) b2
theorem refminv_l0 (m : Nat) (hm : 2 ≤ m) (h3 : nl m < 10000) : ∀ (s r x y : Nat), nl r < 10000 → nl s < 10000 → x < m → y < m →
    Ev (fun k => apostilleref8_Inv.l0 k (nm m) (nm r) (nm s) (nm x) (nm y)) (if (eu m r s x y).1 = 1 then (nm (eu m r s x y).2, true) else ([], false)) := by
  intro s
  induction s using Nat.strongRecOn with
  | ind s ih =>
    intro r x y hr hs hx hy
    have hnx := nl_le (Nat.le_of_lt hx)
    have hny := nl_le (Nat.le_of_lt hy)
    rcases Nat.eq_zero_or_pos s with h | h
    · subst h
      rw [eu_zero]
      refine Ev.step (f := fun k => (apostilleref7_Cmp.f k (nm r) (nm 1)).bind fun t497 => (if t497 = 0 then (some (nm x, true)) else (some (([] : List Int), false)))) (fun k => ?_) ?_
      · simp only [apostilleref8_Inv.l0, ← nm_one]
        exact if_neg (by rw [nm_zero]; decide)
      · refine Ev.bind (f := fun k t497 => _) (refcmpV r 1 (by omega)) ?_
        by_cases h1 : r = 1
        · rw [if_pos h1]
          exact Ev.congr (f := fun _ => some (nm x, true)) (fun k => if_pos ((cmp1 r).mpr h1)) (Ev.now _)
        · rw [if_neg h1]
          exact Ev.congr (f := fun _ => some (([] : List Int), false)) (fun k => if_neg (fun hh => h1 ((cmp1 r).mp hh))) (Ev.now _)
    · have hq : nl (r / s) ≤ nl r := nl_le (Nat.div_le_self _ _)
      have hrs := nl_mod r s h
      have hz : r / s * y % m < m := Nat.mod_lt _ (by omega)
      have hnz := nl_le (Nat.le_of_lt hz)
      have m1 := refmmulV (r / s) y m (by omega) (by omega) (by omega)
      rw [mr_pos (by omega)] at m1
      have m2 := refmsubV x (r / s * y % m) m (by omega) (by omega) (by omega)
      unfold ms at m2
      rw [if_neg (by omega)] at m2
      rw [eu_pos _ _ _ _ _ h]
      refine Ev.step (f := fun k => ((apostilleref7_Div.f k (nm r) (nm s)).bind fun bt482 => ((apostilleref8_Mul.f k bt482.1 (nm y) (nm m)).bind fun bt489 => ((apostilleref8_Sub.f k (nm x) bt489.1 (nm m)).bind fun bt493 => (apostilleref8_Inv.l0 k (nm m) (nm s) bt482.2.1 (nm y) bt493.1))))) (fun k => ?_) ?_
      · simp only [apostilleref8_Inv.l0]
        exact if_pos (by have := nl_pos h; unfold nl at this; omega)
      · have ih' := ih (r % s) (Nat.mod_lt _ h) s y (sv x (r / s * y % m) m) hs (by omega) hy (sv_lt _ _ _ (by omega))
        generalize (if (eu m s (r % s) y (sv x (r / s * y % m) m)).1 = 1 then (nm (eu m s (r % s) y (sv x (r / s * y % m) m)).2, true) else ([], false)) = R at ih' ⊢
        have b3 : Ev (fun k => (apostilleref8_Sub.f k (nm x) (nm (r / s * y % m)) (nm m)).bind fun bt493 => apostilleref8_Inv.l0 k (nm m) (nm s) (nm (r % s)) (nm y) bt493.1) R := Ev.bind (f := fun k => fun bt493 => apostilleref8_Inv.l0 k (nm m) (nm s) (nm (r % s)) (nm y) bt493.1) m2 ih'
        have b2 : Ev (fun k => (apostilleref8_Mul.f k (nm (r / s)) (nm y) (nm m)).bind fun bt489 => (apostilleref8_Sub.f k (nm x) bt489.1 (nm m)).bind fun bt493 => apostilleref8_Inv.l0 k (nm m) (nm s) (nm (r % s)) (nm y) bt493.1) R := Ev.bind (a := (nm (r / s * y % m), true)) (f := fun k => fun bt489 => (apostilleref8_Sub.f k (nm x) bt489.1 (nm m)).bind fun bt493 => apostilleref8_Inv.l0 k (nm m) (nm s) (nm (r % s)) (nm y) bt493.1) m1 b3
        exact Ev.bind (f := fun k bt482 => (apostilleref8_Mul.f k bt482.1 (nm y) (nm m)).bind fun bt489 => (apostilleref8_Sub.f k (nm x) bt489.1 (nm m)).bind fun bt493 => apostilleref8_Inv.l0 k (nm m) (nm s) bt482.2.1 (nm y) bt493.1) (refdivV r s (by omega) (by omega) h) b2
theorem minvV (a m : Nat) (h1 : nl a < 10000) (h2 : nl m < 10000) : Ev (fun k => mod_Inv.f k (nm a) (nm m)) (inv a m) := by
  unfold mod_Inv.f
  simp only [Option.bind_some, ← nm_one]
  refine Ev.bind (f := fun k t477 => _) (cmpV m 1 (by omega)) ?_
  unfold inv
  by_cases hm : m ≤ 1
  · rw [if_pos hm]
    refine Ev.congr (f := fun _ => some (([] : List Int), false)) (fun k => if_pos ?_) (Ev.now _)
    unfold cmpv
    split
    · decide
    · rw [if_pos (by omega)]; decide
  · rw [if_neg hm]
    have hc : ¬ cmpv m 1 ≤ 0 := by unfold cmpv; rw [if_neg (by omega), if_neg (by omega)]; decide
    refine Ev.congr (fun k => if_neg hc) ?_
    refine Ev.bind (f := fun k bt478 => _) (restV a m (by omega) (by omega)) ?_
    rw [mr_pos (by omega)]
    have hx := nl_mod a m (by omega)
    have := minv_l0 m (by omega) h2 (a % m) m 0 1 h2 (by omega) (by omega) (by omega)
    rw [nm_zero] at this
    exact this
theorem refminvV (a m : Nat) (h1 : nl a < 10000) (h2 : nl m < 10000) : Ev (fun k => apostilleref8_Inv.f k (nm a) (nm m)) (inv a m) := by
  unfold apostilleref8_Inv.f
  simp only [← nm_one, ← nm_two]
  refine Ev.bind (f := fun k t477 => _) (refcmpV m 2 (by omega)) ?_
  unfold inv
  by_cases hm : m ≤ 1
  · rw [if_pos hm]
    refine Ev.congr (f := fun _ => some (([] : List Int), false)) (fun k => if_pos ?_) (Ev.now _)
    unfold cmpv
    rw [if_neg (by omega), if_pos (by omega)]; decide
  · rw [if_neg hm]
    have hc : ¬ cmpv m 2 < 0 := by
      unfold cmpv
      split
      · decide
      · rw [if_neg (by omega)]; decide
    refine Ev.congr (fun k => if_neg hc) ?_
    refine Ev.bind (f := fun k bt478 => _) (refrestV a m (by omega) (by omega)) ?_
    rw [mr_pos (by omega)]
    have hx := nl_mod a m (by omega)
    have := refminv_l0 m (by omega) h2 (a % m) m 0 1 h2 (by omega) (by omega) (by omega)
    rw [nm_zero] at this
    exact this
end Go.Proofs.Ytgdkbfipjeinjaa.V
