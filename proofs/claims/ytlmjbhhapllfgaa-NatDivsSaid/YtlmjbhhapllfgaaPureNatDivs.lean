/- Any two numbers: the program's quotient and rest are such that the quotient times the second and the rest are the first, and the rest is less than the second. -/
import Derived.Test.YtlmjbhhapllfgaaAx5
import Derived.Test.YtlmjbhhapllfgaaAx7
import Derived.Test.YtlmjbhhapllfgaaAx17
import Derived.Test.YtlmjbhhapllfgaaNatDz
namespace Go.Proofs.Ytlmjbhhapllfgaa.Pure
open Go.RowKit Go.Proofs.Ytlmjbhhapllfgaa.A Go.Proofs.Ytlmjbhhapllfgaa.V Go.Proofs.YtlmjbhhapllfgaaW.PrintWords Go.Proofs.YtlmjbhhapllfgaaW.PrintLast
set_option linter.unusedVariables false
set_option linter.unusedSimpArgs false

theorem last_ne (V : Nat) (h : ¬ ((nm V).length : Int) = 0) (hs : (nm V).length < 100000) : 0 ≤ wrap64 (((nm V).length : Int) - 1) ∧ wrap64 (((nm V).length : Int) - 1) < ((nm V).length : Int) ∧ ¬ rd (nm V) (wrap64 (((nm V).length : Int) - 1)) = 0 := by
  rw [w64 _ (by omega) (by omega)]
  exact ⟨by omega, by omega, (nm_canon V).2 (by omega)⟩
theorem NatDivs_j0 {a b : List Int} (ha : Canon a) (hb : Canon b) (la : a.length ≤ 256) (lb : b.length ≤ 256) : Ev (fun k => apostillelaw7_NatDivs.j0 k a b false) true := by
  refine Ev.step (fun k => by simp only [apostillelaw7_NatDivs.j0]; rw [if_neg (by simp)]) ?_
  rcases Nat.eq_zero_or_pos b.length with h0 | h0
  · refine Ev.bind (f := fun k bt429 => _) (div_none h0) ?_
    refine Ev.congr (fun k => if_pos (by omega)) ?_
    refine Ev.congr (fun k => if_neg (by simp)) ?_
    exact Ev.congr (fun k => if_pos (by simp [wrap64])) known1
  · have ql : (nm (val a / val b)).length ≤ 256 := nm_len_lt (Nat.lt_of_le_of_lt (Nat.div_le_self _ _) (Nat.lt_of_lt_of_le (val_lt ha.1) (Nat.pow_le_pow_right (by omega) la)))
    have rl : (nm (val a % val b)).length ≤ 256 := nm_len_lt (Nat.lt_of_le_of_lt (Nat.mod_le _ _) (Nat.lt_of_lt_of_le (val_lt ha.1) (Nat.pow_le_pow_right (by omega) la)))
    have hbp : 0 < val b := Nat.lt_of_lt_of_le (pow_pos' _) (canon_pos hb (fun e => by subst e; simp at h0))
    have hrb := Nat.mod_lt (val a) hbp
    refine Ev.bind (f := fun k bt429 => _) (divN ha hb (by omega) (by omega) h0) ?_
    refine Ev.congr (fun k => if_neg (by omega)) ?_
    refine Ev.congr (fun k => if_pos rfl) ?_
    have hcmp := refcmp (nm_canon (val a % val b)) hb (by omega)
    rw [val_nm] at hcmp
    refine Ev.bind (f := fun k t437 => _) hcmp ?_
    refine Ev.congr (fun k => if_pos (by unfold cmpv; rw [if_neg (by omega), if_pos hrb]; decide)) ?_
    have hmul := refmulN (nm_W (val a / val b)) hb.1 (by omega) (by omega)
    rw [val_nm] at hmul
    refine Ev.bind (f := fun k t438 => _) hmul ?_
    have ml : (nm (val a / val b * val b)).length ≤ 256 := nm_len_lt (Nat.lt_of_le_of_lt (Nat.div_mul_le_self _ _) (Nat.lt_of_lt_of_le (val_lt ha.1) (Nat.pow_le_pow_right (by omega) la)))
    have hadd := refaddN (nm_W (val a / val b * val b)) (nm_W (val a % val b)) (by omega) (by omega)
    rw [val_nm, val_nm, Nat.mul_comm, Nat.div_add_mod, ← canon_eq ha, Nat.mul_comm] at hadd
    refine Ev.bind (f := fun k t441 => _) hadd ?_
    have hsame : Ev (fun k => apostillelaw7_same.f k a a) true := by
      have := same_self (V := val a) (by rw [← canon_eq ha]; omega)
      rwa [← canon_eq ha] at this
    refine Ev.bind (f := fun k t444 => _) hsame ?_
    refine Ev.congr (fun k => if_pos rfl) ?_
    by_cases hq : ((nm (val a / val b)).length : Int) = 0
    · refine Ev.congr (fun k => if_pos hq) ?_
      by_cases hr : ((nm (val a % val b)).length : Int) = 0
      · exact Ev.congr (fun k => if_pos hr) known1
      · obtain ⟨z1, z2, z3⟩ := last_ne _ hr (by omega)
        refine Ev.congr (fun k => if_neg hr) ?_
        refine Ev.congr (fun k => if_pos z1) ?_
        refine Ev.congr (fun k => if_pos z2) ?_
        exact Ev.congr (fun k => if_neg z3) known1
    · obtain ⟨y1, y2, y3⟩ := last_ne _ hq (by omega)
      refine Ev.congr (fun k => if_neg hq) ?_
      refine Ev.congr (fun k => if_pos y1) ?_
      refine Ev.congr (fun k => if_pos y2) ?_
      refine Ev.congr (fun k => if_neg y3) ?_
      by_cases hr : ((nm (val a % val b)).length : Int) = 0
      · exact Ev.congr (fun k => if_pos hr) known1
      · obtain ⟨z1, z2, z3⟩ := last_ne _ hr (by omega)
        refine Ev.congr (fun k => if_neg hr) ?_
        refine Ev.congr (fun k => if_pos z1) ?_
        refine Ev.congr (fun k => if_pos z2) ?_
        exact Ev.congr (fun k => if_neg z3) known1
theorem NatDivs : apostillelaw7_NatDivs.Pure := by
  intro a b _ sa wa _ sb wb
  apply Ev.rounds
  have ha := wf_W wa
  have hb := wf_W wb
  have e1 : apostilleref7_Is.f a = some (isb a) := refisN (by omega)
  have e2 : apostilleref7_Is.f b = some (isb b) := refisN (by omega)
  have hT : Ev (fun k => apostillelaw7_NatDivs.j0 k a b true) true := Ev.step (f := fun _ => some true) (fun k => by simp only [apostillelaw7_NatDivs.j0, if_true]) (Ev.now _)
  unfold apostillelaw7_NatDivs.f
  simp only [e1, e2, Option.bind_some]
  cases h1 : isb a with
  | false => exact Ev.congr (fun k => if_neg (by simp)) hT
  | true =>
    refine Ev.congr (fun k => if_pos rfl) ?_
    cases h2 : isb b with
    | false => exact hT
    | true =>
      obtain ⟨ca, la⟩ := isb_canon ha h1
      obtain ⟨cb, lb⟩ := isb_canon hb h2
      exact NatDivs_j0 ca cb la lb
end Go.Proofs.Ytlmjbhhapllfgaa.Pure
