/- Sums and products of numbers in any order, and of parts: for every three rows of digits. -/
import Derived.Test.YtlmjbhhapllfgaaNatIs
import Derived.Test.YtlmjbhhapllfgaaAx14
namespace Go.Proofs.Ytlmjbhhapllfgaa.Pure
open Go.RowKit Go.Proofs.Ytlmjbhhapllfgaa.A Go.Proofs.Ytlmjbhhapllfgaa.V Go.Proofs.YtlmjbhhapllfgaaW.PrintWords Go.Proofs.YtlmjbhhapllfgaaW.PrintLast
set_option linter.unusedVariables false
set_option linter.unusedSimpArgs false

theorem nm_lt {V : Nat} (k : Nat) (h : V < 4294967296 ^ k) : (nm V).length ≤ k := nm_len_lt h
theorem NatLaws_j0 {a b c : List Int} (ha : Canon a) (hb : Canon b) (hc : Canon c) (hl : a.length + b.length + c.length ≤ 120) : Ev (fun k => apostillelaw7_NatLaws.j0 k a b c false) true := by
  have lab := nm_lt 121 (add_small ha.1 hb.1 120 (by omega) (by omega))
  have lbc := nm_lt 121 (add_small hb.1 hc.1 120 (by omega) (by omega))
  have mab := nm_lt 120 (mul_small ha.1 hb.1 120 (by omega))
  have mac := nm_lt 120 (mul_small ha.1 hc.1 120 (by omega))
  have la : a.length < 17592186044416 := by omega
  have lb : b.length < 17592186044416 := by omega
  have lc : c.length < 17592186044416 := by omega
  have eab := addN ha.1 hb.1 (by omega) (by omega)
  have eba := addN hb.1 ha.1 (by omega) (by omega)
  rw [Nat.add_comm] at eba
  have mba := mulN hb.1 ha.1 lb la
  rw [Nat.mul_comm] at mba
  have es : Ev (fun k => nat_Sub.f k (nm (val a + val b)) b) (nm (val a), true) := by
    have := subN (nm_canon (val a + val b)) hb (by omega)
    rw [val_nm] at this
    unfold subR at this
    rwa [if_neg (by omega), Nat.add_sub_cancel] at this
  have em : Ev (fun k => nat_Mul.f k a (nm (val b + val c))) (nm (val a * val b + val a * val c)) := by
    have := mulN ha.1 (nm_W (val b + val c)) la (by omega)
    rwa [val_nm, Nat.mul_add] at this
  have ep : Ev (fun k => nat_Add.f k (nm (val a * val b)) (nm (val a * val c))) (nm (val a * val b + val a * val c)) := by
    have := addN (nm_W (val a * val b)) (nm_W (val a * val c)) (by omega) (by omega)
    rwa [val_nm, val_nm] at this
  have lm := nm_lt 121 (add_small (nm_W (val a * val b)) (nm_W (val a * val c)) 120 mab mac)
  rw [val_nm, val_nm] at lm
  refine Ev.step (fun k => by simp only [apostillelaw7_NatLaws.j0]; rw [if_neg (by simp)]) ?_
  refine Ev.bind (f := fun k t380 => _) eab ?_
  refine Ev.bind (f := fun k bt383 => _) es ?_
  refine Ev.bind (f := fun k t387 => _) eab ?_
  refine Ev.bind (f := fun k t390 => _) eba ?_
  refine Ev.bind (f := fun k t393 => _) (same_self (by omega)) ?_
  refine Ev.congr (fun k => if_pos rfl) ?_
  refine Ev.bind (f := fun k t394 => _) (mulN ha.1 hb.1 la lb) ?_
  refine Ev.bind (f := fun k t397 => _) mba ?_
  refine Ev.bind (f := fun k t400 => _) (same_self (by omega)) ?_
  refine Ev.congr (fun k => if_pos rfl) ?_
  refine Ev.bind (f := fun k t401 => _) (addN hb.1 hc.1 (by omega) (by omega)) ?_
  refine Ev.bind (f := fun k t404 => _) em ?_
  refine Ev.bind (f := fun k t407 => _) (mulN ha.1 hb.1 la lb) ?_
  refine Ev.bind (f := fun k t410 => _) (mulN ha.1 hc.1 la lc) ?_
  refine Ev.bind (f := fun k t413 => _) ep ?_
  refine Ev.bind (f := fun k t416 => _) (same_self (by omega)) ?_
  refine Ev.congr (fun k => by rw [if_pos rfl, if_pos rfl]) ?_
  have e2 : Ev (fun k => apostillelaw7_same.f k (nm (val a)) a) true := by
    have := same_self (V := val a) (by rw [← canon_eq ha]; omega)
    conv at this => enter [1, k]; rw [← canon_eq ha]
    rwa [← canon_eq ha]
  refine Ev.bind (f := fun k t417 => _) e2 ?_
  exact Ev.congr (fun k => if_pos rfl) known1
theorem NatLaws : apostillelaw7_NatLaws.Pure := by
  intro a b c _ sa wa _ sb wb _ sc wc
  apply Ev.rounds
  have ha := wf_W wa
  have hb := wf_W wb
  have hc := wf_W wc
  have e1 : apostilleref7_Is.f a = some (isb a) := refisN (by omega)
  have e2 : apostilleref7_Is.f b = some (isb b) := refisN (by omega)
  have e3 : apostilleref7_Is.f c = some (isb c) := refisN (by omega)
  have hT : Ev (fun k => apostillelaw7_NatLaws.j0 k a b c true) true := Ev.step (f := fun _ => some true) (fun k => by simp only [apostillelaw7_NatLaws.j0, if_true]) (Ev.now _)
  unfold apostillelaw7_NatLaws.f
  simp only [e1, e2, e3, Option.bind_some]
  cases h1 : isb a with
  | false => exact Ev.congr (fun k => if_neg (by simp)) hT
  | true =>
    refine Ev.congr (fun k => if_pos rfl) ?_
    cases h2 : isb b with
    | false => exact Ev.congr (fun k => if_neg (by simp)) hT
    | true =>
      refine Ev.congr (fun k => if_pos rfl) ?_
      cases h3 : isb c with
      | false => exact Ev.congr (fun k => if_neg (by simp)) hT
      | true =>
        refine Ev.congr (fun k => if_pos rfl) ?_
        obtain ⟨ca, la⟩ := isb_canon ha h1
        obtain ⟨cb, lb⟩ := isb_canon hb h2
        obtain ⟨cc, lc⟩ := isb_canon hc h3
        have w : wrap64 (wrap64 ((a.length : Int) + (b.length : Int)) + (c.length : Int)) = ((a.length + b.length + c.length : Nat) : Int) := by
          rw [wadd _ _ (by omega) (by omega), wadd _ _ (by omega) (by omega)]
        rw [w]
        by_cases h : a.length + b.length + c.length > 120
        · rw [decide_eq_true (by omega)]; exact hT
        · rw [decide_eq_false (by omega)]; exact NatLaws_j0 ca cb cc (by omega)
end Go.Proofs.Ytlmjbhhapllfgaa.Pure
