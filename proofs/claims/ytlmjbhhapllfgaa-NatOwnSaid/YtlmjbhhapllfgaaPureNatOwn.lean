/- What is handed in is not changed: sums, products, differences and quotients leave their numbers as they were. -/
import Derived.Test.YtlmjbhhapllfgaaAx10
import Derived.Test.YtlmjbhhapllfgaaAx11
import Derived.Test.YtlmjbhhapllfgaaAx12
import Derived.Test.YtlmjbhhapllfgaaAx3
import Derived.Test.YtlmjbhhapllfgaaAx4
import Derived.Test.YtlmjbhhapllfgaaAx9
import Derived.Test.YtlmjbhhapllfgaaNatB
namespace Go.Proofs.Ytlmjbhhapllfgaa.Pure
open Go.RowKit Go.Proofs.Ytlmjbhhapllfgaa.A Go.Proofs.Ytlmjbhhapllfgaa.V Go.Proofs.YtlmjbhhapllfgaaW.PrintWords Go.Proofs.YtlmjbhhapllfgaaW.PrintLast
set_option linter.unusedVariables false
set_option linter.unusedSimpArgs false

theorem own_same {a : List Int} (ha : Canon a) (hl : a.length < 100000) : Ev (fun k => apostillelaw7_same.f k a a) true := by
  unfold apostillelaw7_same.f
  refine Ev.congr (fun k => if_pos rfl) ?_
  have := refcmp ha ha (by omega)
  have e : cmpv (val a) (val a) = 0 := if_pos rfl
  rw [e] at this
  exact Ev.bind (f := fun _ t => some (t == 0)) this (Ev.now _)
theorem own_end {a b : List Int} (ha : Canon a) (hb : Canon b) (hla : a.length < 100000) (hlb : b.length < 100000) :
    Ev (fun k => (apostillelaw7_same.f k a a).bind fun t346 => (if t346 = true then ((apostillelaw7_same.f k b b).bind fun t347 => (if t347 = true then ((apostillelaw7_known.f k).bind fun t348 => (some t348)) else (some false))) else (some false))) true := by
  refine Ev.bind (a := true) (f := fun k t346 => _) (own_same ha hla) ?_
  refine Ev.congr (fun k => if_pos rfl) ?_
  refine Ev.bind (a := true) (f := fun k t347 => _) (own_same hb hlb) ?_
  refine Ev.congr (fun k => if_pos rfl) ?_
  exact known1
theorem own_l1 {a b : List Int} (ha : Canon a) (hb : Canon b) (hla : a.length < 100000) (hlb : b.length < 100000) : ∀ (d i : Nat) (x : List Int), i + d = x.length → x.length < 1000000 →
    Ev (fun k => apostillelaw7_NatOwn.l1 k a b a b x (i : Int)) true := by
  intro d
  induction d with
  | zero =>
    intro i x hi hx
    refine Ev.step (fun k => ?_) (own_end ha hb hla hlb)
    simp only [apostillelaw7_NatOwn.l1]
    exact if_neg (by omega)
  | succ d ih =>
    intro i x hi hx
    refine Ev.step (fun k => ?_) (ih (i + 1) (x.set i (((rd x (i : Int)) + 1) % 4294967296)) (by rw [List.length_set]; omega) (by rw [List.length_set]; exact hx))
    simp only [apostillelaw7_NatOwn.l1]
    rw [if_pos (by omega), if_pos (Int.natCast_nonneg i), wsucc i (by omega), Int.toNat_natCast]
theorem own_l0 {a b x9 : List Int} (ha : Canon a) (hb : Canon b) (hla : a.length < 100000) (hlb : b.length < 100000) (h9 : x9.length < 1000000) : ∀ (d i : Nat) (x : List Int), i + d = x.length → x.length < 1000000 →
    Ev (fun k => apostillelaw7_NatOwn.l0 k a b a b x x9 (i : Int)) true := by
  intro d
  induction d with
  | zero =>
    intro i x hi hx
    refine Ev.step (fun k => ?_) (own_l1 ha hb hla hlb x9.length 0 x9 (by omega) h9)
    simp only [apostillelaw7_NatOwn.l0]
    exact if_neg (by omega)
  | succ d ih =>
    intro i x hi hx
    refine Ev.step (fun k => ?_) (ih (i + 1) (x.set i (((rd x (i : Int)) + 1) % 4294967296)) (by rw [List.length_set]; omega) (by rw [List.length_set]; exact hx))
    simp only [apostillelaw7_NatOwn.l0]
    rw [if_pos (by omega), if_pos (Int.natCast_nonneg i), wsucc i (by omega), Int.toNat_natCast]
theorem own_div {a b : List Int} (ha : Canon a) (hb : Canon b) (hla : a.length ≤ 256) (hlb : b.length ≤ 256) : ∃ r : List Int × List Int × Bool, r.2.1.length < 1000000 ∧ Ev (fun k => nat_Div.f k a b) r := by
  rcases Nat.eq_zero_or_pos b.length with h | h
  · exact ⟨_, by decide, div_none h⟩
  · refine ⟨_, ?_, divN ha hb (by omega) (by omega) h⟩
    have h1 : val a % val b < 4294967296 ^ a.length := Nat.lt_of_le_of_lt (Nat.mod_le _ _) (val_lt ha.1)
    have := nm_len_lt h1
    show (nm (val a % val b)).length < 1000000
    omega
theorem NatOwn_off (l0 l1 : List Int) : Ev (fun k => apostillelaw7_NatOwn.j0 k l0 l1 true) true := by
  refine Ev.step (f := fun _ => some true) (fun k => ?_) (Ev.now _)
  simp only [apostillelaw7_NatOwn.j0]
  exact if_pos trivial
theorem NatOwn_go {a b s : List Int} {r : List Int × List Int × Bool} (ha : Canon a) (hb : Canon b) (hla : a.length < 100000) (hlb : b.length < 100000) (hs : s.length < 1000000) (hr : r.2.1.length < 1000000) {m : List Int} {u : List Int × Bool}
    (e1 : Ev (fun k => nat_Add.f k a b) s) (e2 : Ev (fun k => nat_Mul.f k a b) m) (e3 : Ev (fun k => nat_Sub.f k a b) u) (e4 : Ev (fun k => nat_Div.f k a b) r) :
    Ev (fun k => (nat_Add.f k a b).bind fun t325 => ((nat_Mul.f k a b).bind fun t328 => ((nat_Sub.f k a b).bind fun bt331 => ((nat_Div.f k a b).bind fun bt335 => (apostillelaw7_NatOwn.l0 k a b a b t325 bt335.2.1 0))))) true := by
  refine Ev.bind (a := s) (f := fun k t325 => _) e1 ?_
  refine Ev.bind (a := m) (f := fun k t328 => _) e2 ?_
  refine Ev.bind (a := u) (f := fun k bt331 => _) e3 ?_
  refine Ev.bind (a := r) (f := fun k bt335 => _) e4 ?_
  exact own_l0 ha hb hla hlb hr s.length 0 s (Nat.zero_add _) hs
theorem own_nil {a : List Int} {n : Nat} (h : a.length < n) : ([] : List Int).length + a.length < n := by rw [List.length_nil, Nat.zero_add]; exact h
theorem own_len {a b : List Int} (ha : W a) (hb : W b) (n : Nat) (h1 : a.length ≤ n) (h2 : b.length ≤ n) : (nm (val a + val b)).length ≤ n + 1 := nm_len_lt (add_small ha hb n h1 h2)
theorem NatOwn_on {a b : List Int} (ha : Canon a) (hb : Canon b) (hla : a.length ≤ 256) (hlb : b.length ≤ 256) : Ev (fun k => apostillelaw7_NatOwn.j0 k a b false) true := by
  have ca : a.length < 35184372088832 := Nat.lt_of_le_of_lt hla (by decide)
  have cb : b.length < 35184372088832 := Nat.lt_of_le_of_lt hlb (by decide)
  have ca' : a.length < 17592186044416 := Nat.lt_of_le_of_lt hla (by decide)
  have cb' : b.length < 17592186044416 := Nat.lt_of_le_of_lt hlb (by decide)
  obtain ⟨r, hr, hd⟩ := own_div ha hb hla hlb
  have h1 : (nm (val a + val b)).length < 1000000 := Nat.lt_of_le_of_lt (own_len ha.1 hb.1 256 hla hlb) (by decide)
  have go := NatOwn_go ha hb (Nat.lt_of_le_of_lt hla (by decide)) (Nat.lt_of_le_of_lt hlb (by decide)) h1 hr (addN ha.1 hb.1 ca cb) (mulN ha.1 hb.1 ca' cb') (subN ha hb ca) hd
  refine Ev.step (fun k => ?_) go
  rw [apostillelaw7_NatOwn.j0, if_neg Bool.false_ne_true, Option.bind_some, if_pos (own_nil ca), Option.bind_some, Option.bind_some, if_pos (own_nil cb), Option.bind_some, List.nil_append, List.nil_append]
theorem NatOwn : apostillelaw7_NatOwn.Pure := by
  intro l0 l1 m0 _ w0 m1 _ w1
  refine Ev.rounds ?_
  unfold apostillelaw7_NatOwn.f
  unfold maxLen at m0 m1
  refine Ev.bind (f := fun k t311 => _) (g := fun _ => apostilleref7_Is.f l0) (Ev.congr (fun _ => refisN (by omega)) (Ev.now _)) ?_
  by_cases h0 : isb l0 = true
  · rw [h0]
    refine Ev.congr (fun k => if_pos rfl) ?_
    refine Ev.bind (f := fun k t312 => _) (g := fun _ => apostilleref7_Is.f l1) (Ev.congr (fun _ => refisN (by omega)) (Ev.now _)) ?_
    by_cases h1 : isb l1 = true
    · rw [h1]
      refine Ev.congr (fun k => if_pos rfl) ?_
      obtain ⟨c0, b0⟩ := isb_canon (wf_W w0) h0
      obtain ⟨c1, b1⟩ := isb_canon (wf_W w1) h1
      cases hd : decide (wrap64 ((l0.length : Int) + (l1.length : Int)) > 200) with
      | true => exact NatOwn_off l0 l1
      | false => exact NatOwn_on c0 c1 b0 b1
    · exact Ev.congr (fun k => if_neg h1) (NatOwn_off l0 l1)
  · exact Ev.congr (fun k => if_neg h0) (NatOwn_off l0 l1)
end Go.Proofs.Ytlmjbhhapllfgaa.Pure
