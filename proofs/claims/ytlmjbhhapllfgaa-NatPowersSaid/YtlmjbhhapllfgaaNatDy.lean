/- The division of numbers: the whole. -/
import Derived.Test.YtlmjbhhapllfgaaAx1
import Derived.Test.YtlmjbhhapllfgaaAx6
import Derived.Test.YtlmjbhhapllfgaaAx7
import Derived.Test.YtlmjbhhapllfgaaAx8
import Derived.Test.YtlmjbhhapllfgaaAx9
import Derived.Test.YtlmjbhhapllfgaaNatDx
namespace Go.Proofs.Ytlmjbhhapllfgaa.V
open Go.RowKit Go.Proofs.Ytlmjbhhapllfgaa.A Go.Proofs.YtlmjbhhapllfgaaW.PrintWords Go.Proofs.YtlmjbhhapllfgaaW.PrintLast
set_option linter.unusedVariables false
set_option linter.unusedSimpArgs false

theorem W_drop {l : List Int} (h : W l) (n : Nat) : W (l.drop n) := fun x hx => h x (List.mem_of_mem_drop hx)
theorem W_append {a b : List Int} (ha : W a) (hb : W b) : W (a ++ b) := fun x hx => (List.mem_append.mp hx).elim (ha x) (hb x)
theorem val_cut (l : List Int) (i : Nat) (h : i ≤ l.length) : val l = val (l.take i) + 4294967296 ^ i * val (l.drop i) := by
  have := val_append (l.take i) (l.drop i)
  rw [List.take_append_drop, List.length_take, Nat.min_eq_left h] at this
  exact this
theorem partlen (l : List Int) (i m : Nat) (h : i + m ≤ l.length) : ((l.drop i).take m).length = m := by rw [List.length_take, List.length_drop]; omega
theorem step_num (U V lo P g R z : Nat) (hU : U = lo + z * P) (hlo : lo < z) (hP : P = R + g * V) (hR : R < V) : lo + z * R < V * z ∧ U = (lo + z * R) + z * (g * V) := by
  constructor
  · have : z * (R + 1) ≤ z * V := Nat.mul_le_mul_left z hR
    rw [Nat.mul_add, Nat.mul_one] at this
    rw [Nat.mul_comm V]
    omega
  · rw [hU, hP, Nat.mul_add]; omega
/-- one digit of the quotient -/
theorem div_step {u v : List Int} (hu : W u) (hv : W v) (i : Nat) (hn : 2 ≤ v.length) (hnb : v.length < 1000000) (hul : u.length < 1000000) (hb : i + v.length + 1 ≤ u.length) (htop : 2147483648 ≤ dg v (v.length - 1)) (hlt : val u < val v * 4294967296 ^ (i + 1)) :
    ∃ (u' : List Int) (g g0 : Nat), W u' ∧ u'.length = u.length ∧ g < 4294967296 ∧ val u' < val v * 4294967296 ^ i ∧ val u = val u' + 4294967296 ^ i * (g * val v) ∧
      Ev (fun k => nat_guess_at.f k u v (i : Int)) (g0 : Int) ∧ g0 < 4294967296 ∧
      ((g0 = g ∧ Ev (fun k => nat_less_at.f k u v (g0 : Int) (i : Int)) (false, u')) ∨
       (g0 = g + 1 ∧ ∃ u1 : List Int, Ev (fun k => nat_less_at.f k u v (g0 : Int) (i : Int)) (true, u1) ∧ Ev (fun k => nat_more_at.f k u1 v (i : Int)) u')) := by
  have hwp : W ((u.drop i).take (v.length + 1)) := W_take (W_drop hu i) _
  have hlp : ((u.drop i).take (v.length + 1)).length = v.length + 1 := partlen u i (v.length + 1) (by omega)
  have hd : val (u.drop i) = val ((u.drop i).take (v.length + 1)) + 4294967296 ^ (v.length + 1) * val (u.drop (i + (v.length + 1))) := by
    have := val_cut (u.drop i) (v.length + 1) (by rw [List.length_drop]; omega)
    rwa [List.drop_drop] at this
  have hc := val_cut u i (by omega)
  have hlo := take_lt hu i
  have hVl := val_lt hv
  have hz : val (u.drop (i + (v.length + 1))) = 0 := by
    rcases Nat.eq_zero_or_pos (val (u.drop (i + (v.length + 1)))) with h | h
    · exact h
    · exfalso
      have h1 : 4294967296 ^ (v.length + 1) ≤ val (u.drop i) := by
        have : 4294967296 ^ (v.length + 1) * 1 ≤ 4294967296 ^ (v.length + 1) * val (u.drop (i + (v.length + 1))) := Nat.mul_le_mul_left _ h
        omega
      have h2 : 4294967296 ^ i * 4294967296 ^ (v.length + 1) ≤ 4294967296 ^ i * val (u.drop i) := Nat.mul_le_mul_left _ h1
      have h3 : val v * 4294967296 ^ (i + 1) ≤ 4294967296 ^ v.length * 4294967296 ^ (i + 1) := Nat.mul_le_mul_right _ (Nat.le_of_lt hVl)
      have h4 : 4294967296 ^ v.length * 4294967296 ^ (i + 1) = 4294967296 ^ i * 4294967296 ^ (v.length + 1) := by rw [← Nat.pow_add, ← Nat.pow_add]; congr 1; omega
      rw [h4] at h3
      omega
  rw [hz, Nat.mul_zero, Nat.add_zero] at hd
  rw [hd] at hc
  have hPlt : val ((u.drop i).take (v.length + 1)) < val v * 4294967296 := by
    have h1 : 4294967296 ^ i * val ((u.drop i).take (v.length + 1)) < 4294967296 ^ i * (val v * 4294967296) := by
      have e : 4294967296 ^ i * (val v * 4294967296) = val v * 4294967296 ^ (i + 1) := by rw [pow_succ', Nat.mul_comm (4294967296 ^ i), Nat.mul_assoc]
      rw [e]
      omega
    exact Nat.lt_of_mul_lt_mul_left h1
  have hVp : 0 < val v := by
    rcases Nat.eq_zero_or_pos (val v) with h | h
    · rw [h] at hPlt; omega
    · exact h
  obtain ⟨g0, g1, g2, g3, g4⟩ := guessN hwp hv v.length hn rfl hlp hnb htop hPlt
  obtain ⟨x', b', l1, l2, l3, l4, l5⟩ := lessN hwp hv g0 g3 (by rw [hlp]; omega) (by rw [hlp]; omega)
  have hx'l := val_lt l2
  rw [l3, hlp] at hx'l
  rw [hlp] at l3 l4
  have eg : Ev (fun k => nat_guess_at.f k u v (i : Int)) (g0 : Int) := by
    refine Ev.congr (fun k => ?_) g4
    unfold nat_guess_at.f
    rw [if_pos (Int.natCast_nonneg _), Int.toNat_natCast, if_pos hb]
  have el : Ev (fun k => nat_less_at.f k u v (g0 : Int) (i : Int)) (decide ((b' : Int) > 0), u.take i ++ x' ++ u.drop (i + (v.length + 1))) := by
    refine Ev.congr (f := fun k => (nat_less.f k ((u.drop i).take (v.length + 1)) v (g0 : Int)).bind fun b => some (b.1, u.take i ++ b.2 ++ u.drop (i + (v.length + 1)))) (fun k => ?_) (Ev.bind (f := fun _ b => some (b.1, u.take i ++ b.2 ++ u.drop (i + (v.length + 1)))) l5 (Ev.now _))
    unfold nat_less_at.f
    rw [if_pos (Int.natCast_nonneg _), Int.toNat_natCast, if_pos hb]
  have hsp : ∀ y : List Int, y.length = v.length + 1 → (u.take i ++ y ++ u.drop (i + (v.length + 1))).length = u.length ∧ val (u.take i ++ y ++ u.drop (i + (v.length + 1))) = val (u.take i) + 4294967296 ^ i * val y := by
    intro y hy
    have htl : (u.take i).length = i := by rw [List.length_take]; omega
    refine ⟨by simp only [List.length_append, List.length_take, List.length_drop]; omega, ?_⟩
    rw [val_append, val_append, hz, Nat.mul_zero, Nat.add_zero, htl]
  have hdm := Nat.div_add_mod (val ((u.drop i).take (v.length + 1))) (val v)
  have hml := Nat.mod_lt (val ((u.drop i).take (v.length + 1))) hVp
  have hVlt : val v < 4294967296 ^ (v.length + 1) := Nat.lt_of_lt_of_le hVl (Nat.pow_le_pow_right (by omega) (by omega))
  obtain ⟨s1, s2⟩ := hsp x' l3
  rcases Nat.eq_zero_or_pos b' with hb0 | hb0
  · -- nothing was lent
    subst hb0
    rw [Nat.mul_zero, Nat.add_zero] at l4
    have hge : g0 = val ((u.drop i).take (v.length + 1)) / val v := by
      have : g0 ≤ val ((u.drop i).take (v.length + 1)) / val v := by rw [Nat.le_div_iff_mul_le hVp]; omega
      omega
    have hR : val x' < val v := by
      rw [Nat.mul_comm, ← hge] at hdm
      omega
    obtain ⟨n1, n2⟩ := step_num (val u) (val v) (val (u.take i)) (val ((u.drop i).take (v.length + 1))) g0 (val x') (4294967296 ^ i) hc hlo l4.symm hR
    refine ⟨_, g0, g0, W_append (W_append (W_take hu i) l2) (W_drop hu _), s1, g3, by rw [s2]; exact n1, by rw [s2]; exact n2, eg, g3, Or.inl ⟨rfl, ?_⟩⟩
    simpa using el
  · obtain rfl : b' = 1 := by omega
    rw [Nat.mul_one] at l4
    have hgt : val ((u.drop i).take (v.length + 1)) < g0 * val v := by omega
    have hge : g0 = val ((u.drop i).take (v.length + 1)) / val v + 1 := by
      have : val ((u.drop i).take (v.length + 1)) / val v < g0 := by rw [Nat.div_lt_iff_lt_mul hVp]; exact hgt
      omega
    have hgv : g0 * val v = val ((u.drop i).take (v.length + 1)) / val v * val v + val v := by rw [hge, Nat.succ_mul]
    have e1 : ((u.take i ++ x' ++ u.drop (i + (v.length + 1))).drop i).take (v.length + 1) = x' := by
      have htl : (u.take i).length = i := by rw [List.length_take]; omega
      rw [List.append_assoc, List.drop_append_of_le_length (by omega), List.drop_of_length_le (by omega), List.nil_append, List.take_append_of_le_length (by omega), List.take_of_length_le (by omega)]
    have e2 : (u.take i ++ x' ++ u.drop (i + (v.length + 1))).take i = u.take i := by
      have htl : (u.take i).length = i := by rw [List.length_take]; omega
      rw [List.append_assoc, List.take_append_of_le_length (by omega), List.take_of_length_le (by omega)]
    have e3 : (u.take i ++ x' ++ u.drop (i + (v.length + 1))).drop (i + (v.length + 1)) = u.drop (i + (v.length + 1)) := by
      have htl : (u.take i ++ x').length = i + (v.length + 1) := by rw [List.length_append, List.length_take]; omega
      rw [← htl, List.drop_left]
    obtain ⟨y', c', m1, m2, m3, m4, m5⟩ := moreN l2 hv (by rw [l3]; omega) (by rw [l3]; omega)
    rw [l3] at m3 m4
    have hy'l := val_lt m2
    rw [m3] at hy'l
    have hc1 : c' = 1 := by
      rcases Nat.eq_zero_or_pos c' with h | h
      · subst h
        rw [Nat.mul_zero, Nat.add_zero] at m4
        rw [Nat.mul_comm] at hdm
        omega
      · omega
    subst hc1
    rw [Nat.mul_one] at m4
    have hR : val y' < val v ∧ val ((u.drop i).take (v.length + 1)) = val y' + val ((u.drop i).take (v.length + 1)) / val v * val v := by
      rw [Nat.mul_comm] at hdm
      omega
    obtain ⟨t1, t2⟩ := hsp y' m3
    obtain ⟨n1, n2⟩ := step_num (val u) (val v) (val (u.take i)) (val ((u.drop i).take (v.length + 1))) (val ((u.drop i).take (v.length + 1)) / val v) (val y') (4294967296 ^ i) hc hlo hR.2 hR.1
    refine ⟨u.take i ++ y' ++ u.drop (i + (v.length + 1)), val ((u.drop i).take (v.length + 1)) / val v, g0, W_append (W_append (W_take hu i) m2) (W_drop hu _), t1, by omega, by rw [t2]; exact n1, by rw [t2]; exact n2, eg, g3, Or.inr ⟨hge, u.take i ++ x' ++ u.drop (i + (v.length + 1)), by simpa using el, ?_⟩⟩
    refine Ev.congr (f := fun k => (nat_more.f k x' v).bind fun b => some (u.take i ++ b ++ u.drop (i + (v.length + 1)))) (fun k => ?_) (Ev.bind (f := fun _ b => some (u.take i ++ b ++ u.drop (i + (v.length + 1)))) m5 (Ev.now _))
    unfold nat_more_at.f
    rw [if_pos (Int.natCast_nonneg _), Int.toNat_natCast, if_pos (by rw [s1]; exact hb), e1, e2, e3]
theorem div_l0 {v : List Int} (hv : W v) (s : Nat) (hs : s < 32) (hn : 2 ≤ v.length) (hnb : v.length < 1000000) (htop : 2147483648 ≤ dg v (v.length - 1)) (N m1 A' : Nat) (hN : N = m1 + v.length) (hNb : N < 1000000) :
    ∀ (p : Nat), p ≤ m1 → ∀ (q u : List Int) (Q : Nat), W q → q.length = m1 → val q = 4294967296 ^ p * Q → W u → u.length = N → val u < val v * 4294967296 ^ p → A' = val u + val v * (4294967296 ^ p * Q) →
    Ev (fun k => nat_Div.l0 k q (s : Int) u v ((p : Int) - 1)) (nm (A' / val v), nm (A' % val v / 2 ^ s), true) := by
  intro p
  induction p with
  | zero =>
    intro hp q u Q hwq hq hvq hwu hu hlt hA
    rw [Nat.pow_zero, Nat.one_mul] at hvq hA
    rw [Nat.pow_zero, Nat.mul_one] at hlt
    have hVp : 0 < val v := by omega
    have e1 : A' / val v = val q := by rw [hA, hvq, Nat.add_mul_div_left _ _ hVp, Nat.div_eq_of_lt hlt, Nat.zero_add]
    have e2 : A' % val v = val u := by rw [hA, Nat.add_mul_mod_self_left, Nat.mod_eq_of_lt hlt]
    have e3 : val (u.take v.length) = val u := by rw [val_take hwu, Nat.mod_eq_of_lt (Nat.lt_trans hlt (val_lt hv))]
    rw [e1, e2]
    refine Ev.step (f := fun k => (nat_plain.f k q).bind fun t => (nat_back.f k (u.take v.length) (s : Int)).bind fun t2 => some (t, t2, true)) (fun k => ?_) ?_
    · simp only [nat_Div.l0]
      rw [if_neg (by omega)]
      simp only [if_pos (show (0 : Int) ≤ (v.length : Int) from Int.natCast_nonneg _), if_pos (show (v.length : Int) ≤ (u.length : Int) by omega), Int.toNat_natCast]
    · refine Ev.bind (f := fun k t => (nat_back.f k (u.take v.length) (s : Int)).bind fun t2 => some (t, t2, true)) (plainf hwq (by omega)) ?_
      have := backN (W_take hwu v.length) s hs (by rw [List.length_take]; omega)
      rw [e3] at this
      exact Ev.bind (f := fun k t2 => some (nm (val q), t2, true)) this (Ev.now _)
  | succ i ih =>
    intro hp q u Q hwq hq hvq hwu hu hlt hA
    obtain ⟨u', g, g0, a1, a2, a3, a4, a5, a6, a7, a8⟩ := div_step hwu hv i hn hnb (by omega) (by omega) htop hlt
    have w : ((i + 1 : Nat) : Int) - 1 = (i : Int) := by omega
    have wi : wrap64 ((i : Int) - 1) = (i : Int) - 1 := w64 _ (by omega) (by omega)
    have hi : i < q.length := by omega
    have c1 : (i : Int) ≥ 0 := Int.natCast_nonneg _
    have c2 : (i : Int) < (q.length : Int) := Int.ofNat_lt.mpr hi
    have hq0 : dg q i = 0 := by
      rw [dg_val hwq, hvq, Nat.pow_succ, Nat.mul_assoc, Nat.mul_div_cancel_left _ (pow_pos' i), Nat.mul_mod_right]
    have hvs := val_dset (l := q) i g hi
    rw [hq0, Nat.mul_zero, Nat.add_zero, hvq, pow_succ'] at hvs
    have rest := ih (by omega) (q.set i (g : Int)) u' (4294967296 * Q + g) (W_set hwq _ _ (Int.natCast_nonneg _) (cast_lt _ a3)) (by rw [List.length_set]; exact hq)
      (by rw [hvs, Nat.mul_add, Nat.mul_assoc, Nat.mul_left_comm]) a1 (by rw [a2]; exact hu) a4
      (by
        have x1 : 4294967296 ^ i * (g * val v) = val v * (4294967296 ^ i * g) := by rw [Nat.mul_comm g, Nat.mul_left_comm]
        have x2 : val v * (4294967296 * 4294967296 ^ i * Q) = val v * (4294967296 ^ i * (4294967296 * Q)) := by rw [Nat.mul_comm 4294967296 (4294967296 ^ i), Nat.mul_assoc]
        have x3 : val v * (4294967296 ^ i * (4294967296 * Q + g)) = val v * (4294967296 ^ i * (4294967296 * Q)) + val v * (4294967296 ^ i * g) := by rw [Nat.mul_add, Nat.mul_add]
        rw [hA, a5, pow_succ', x1, x2, x3]
        omega)
    have hg0 : (g0 : Int) % 4294967296 = (g0 : Int) := by omega
    refine Ev.step (f := fun k => (nat_guess_at.f k u v (i : Int)).bind fun t421 => ((nat_less_at.f k u v t421 (i : Int)).bind fun bt422 => (if bt422.1 = true then ((nat_more_at.f k bt422.2 v (i : Int)).bind fun t424 => (nat_Div.l0 k (q.set i ((IntKind.u64.wrap (t421 - 1)) % 4294967296)) (s : Int) t424 v ((i : Int) - 1))) else (nat_Div.l0 k (q.set i (t421 % 4294967296)) (s : Int) bt422.2 v ((i : Int) - 1))))) (fun k => ?_) ?_
    · simp only [nat_Div.l0, w, wi]
      rw [if_pos c1]
      simp only [if_pos c1, if_pos c2, if_pos (show (0 : Int) ≤ (i : Int) from c1), Int.toNat_natCast]
    · refine Ev.bind (f := fun k t421 => ((nat_less_at.f k u v t421 (i : Int)).bind fun bt422 => (if bt422.1 = true then ((nat_more_at.f k bt422.2 v (i : Int)).bind fun t424 => (nat_Div.l0 k (q.set i ((IntKind.u64.wrap (t421 - 1)) % 4294967296)) (s : Int) t424 v ((i : Int) - 1))) else (nat_Div.l0 k (q.set i (t421 % 4294967296)) (s : Int) bt422.2 v ((i : Int) - 1))))) a6 ?_
      rcases a8 with ⟨rfl, b1⟩ | ⟨b0, u1, b1, b2⟩
      · refine Ev.bind (f := fun k bt422 => (if bt422.1 = true then ((nat_more_at.f k bt422.2 v (i : Int)).bind fun t424 => (nat_Div.l0 k (q.set i ((IntKind.u64.wrap ((g0 : Int) - 1)) % 4294967296)) (s : Int) t424 v ((i : Int) - 1))) else (nat_Div.l0 k (q.set i ((g0 : Int) % 4294967296)) (s : Int) bt422.2 v ((i : Int) - 1)))) b1 ?_
        refine Ev.congr (fun k => ?_) rest
        rw [if_neg (by simp), hg0]
      · refine Ev.bind (f := fun k bt422 => (if bt422.1 = true then ((nat_more_at.f k bt422.2 v (i : Int)).bind fun t424 => (nat_Div.l0 k (q.set i ((IntKind.u64.wrap ((g0 : Int) - 1)) % 4294967296)) (s : Int) t424 v ((i : Int) - 1))) else (nat_Div.l0 k (q.set i ((g0 : Int) % 4294967296)) (s : Int) bt422.2 v ((i : Int) - 1)))) b1 ?_
        have hw : (IntKind.u64.wrap ((g0 : Int) - 1)) % 4294967296 = (g : Int) := by rw [wu64]; omega
        refine Ev.congr (f := fun k => (nat_more_at.f k u1 v (i : Int)).bind fun t424 => (nat_Div.l0 k (q.set i (g : Int)) (s : Int) t424 v ((i : Int) - 1))) (fun k => ?_) (Ev.bind (f := fun k t424 => nat_Div.l0 k (q.set i (g : Int)) (s : Int) t424 v ((i : Int) - 1)) b2 rest)
        rw [if_pos rfl, hw]
end Go.Proofs.Ytlmjbhhapllfgaa.V
