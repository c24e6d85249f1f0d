/- Any two numbers: the program's sum, difference, product and order are the document's, for every two rows of digits. -/
import Derived.Test.YtlmjbhhapllfgaaNatIs
import Derived.Test.YtlmjbhhapllfgaaAx10
namespace Go.Proofs.Ytlmjbhhapllfgaa.Pure
open Go.RowKit Go.Proofs.Ytlmjbhhapllfgaa.A Go.Proofs.Ytlmjbhhapllfgaa.V Go.Proofs.YtlmjbhhapllfgaaW.PrintWords Go.Proofs.YtlmjbhhapllfgaaW.PrintLast
set_option linter.unusedVariables false
set_option linter.unusedSimpArgs false

theorem NatSums_j0 {a b : List Int} (ha : Canon a) (hb : Canon b) (la : a.length ≤ 256) (lb : b.length ≤ 256) : Ev (fun k => apostillelaw7_NatSums.j0 k a b true true false) true := by
  have sa := add_small ha.1 hb.1 256 la lb
  have sm := mul_small ha.1 hb.1 512 (by omega)
  have ss : val a - val b < 4294967296 ^ 256 := Nat.lt_of_le_of_lt (Nat.sub_le _ _) (Nat.lt_of_lt_of_le (val_lt ha.1) (Nat.pow_le_pow_right (by omega) la))
  have hsa := nm_small (256 + 1) sa (by omega)
  have hsm := nm_small 512 sm (by omega)
  have hss := nm_small 256 ss (by omega)
  clear sa sm ss
  have hla : a.length < 17592186044416 := by omega
  have hlb : b.length < 17592186044416 := by omega
  refine Ev.step (fun k => by simp only [apostillelaw7_NatSums.j0]; rw [if_neg (by simp)]) ?_
  refine Ev.bind (f := fun k bt298 => _) (subN ha hb (by omega)) ?_
  refine Ev.bind (f := fun k bt302 => _) (refsubN ha hb (by omega)) ?_
  refine Ev.bind (f := fun k t306 => _) (addN ha.1 hb.1 (by omega) (by omega)) ?_
  refine Ev.bind (f := fun k t309 => _) (refaddN ha.1 hb.1 (by omega) (by omega)) ?_
  refine Ev.bind (f := fun k t312 => _) (same_self (by omega)) ?_
  refine Ev.congr (fun k => if_pos rfl) ?_
  refine Ev.bind (f := fun k t313 => _) (mulN ha.1 hb.1 hla hlb) ?_
  refine Ev.bind (f := fun k t316 => _) (refmulN ha.1 hb.1 hla hlb) ?_
  refine Ev.bind (f := fun k t319 => _) (same_self (by omega)) ?_
  refine Ev.congr (fun k => if_pos rfl) ?_
  refine Ev.bind (f := fun k t320 => _) (cmpN ha hb (by omega)) ?_
  refine Ev.bind (f := fun k t321 => _) (refcmp ha hb (by omega)) ?_
  refine Ev.congr (fun k => if_pos rfl) ?_
  rw [subR_1]
  refine Ev.bind (f := fun k t322 => _) (same_self (by omega)) ?_
  refine Ev.congr (fun k => if_pos rfl) ?_
  refine Ev.congr (fun k => if_pos (by simp)) ?_
  have eb : nat_Bits.f a = some (bl (val a) : Int) := by
    have := bitsN (V := val a) (by rw [← canon_eq ha]; omega)
    rwa [← canon_eq ha] at this
  have er : Ev (fun k => apostilleref7_Bits.f k a) (bl (val a) : Int) := by
    have := refbits (V := val a) (by rw [← canon_eq ha]; omega)
    rwa [← canon_eq ha] at this
  rw [eb]
  simp only [Option.bind_some]
  refine Ev.bind (f := fun k t324 => _) er ?_
  exact Ev.congr (fun k => if_pos rfl) known1
theorem NatSums : apostillelaw7_NatSums.Pure := by
  intro a b _ sa wa _ sb wb
  apply Ev.rounds
  have ha := wf_W wa
  have hb := wf_W wb
  have e1 : apostilleref7_Is.f a = some (isb a) := refisN (by omega)
  have e2 : apostilleref7_Is.f b = some (isb b) := refisN (by omega)
  have e3 : nat_Is.f a = some (isb a) := isN (by omega)
  have e4 : nat_Is.f b = some (isb b) := isN (by omega)
  have hT : Ev (fun k => apostillelaw7_NatSums.j0 k a b (isb a) (isb b) true) true := by
    refine Ev.step (fun k => by simp only [apostillelaw7_NatSums.j0]; rw [if_pos trivial, e3, Option.bind_some, if_pos (by simp), e4, Option.bind_some, if_pos (by simp)]) known1
  unfold apostillelaw7_NatSums.f
  simp only [e1, e2, e3, e4, Option.bind_some]
  refine Ev.congr (fun k => by rw [if_neg (by simp), if_neg (by simp)]) ?_
  cases h1 : isb a with
  | false => rw [h1] at hT; exact Ev.congr (fun k => if_neg (by simp)) hT
  | true =>
    refine Ev.congr (fun k => if_pos rfl) ?_
    rw [h1] at hT
    cases h2 : isb b with
    | false => rw [h2] at hT; exact hT
    | true =>
      obtain ⟨ca, la⟩ := isb_canon ha h1
      obtain ⟨cb, lb⟩ := isb_canon hb h2
      exact NatSums_j0 ca cb la lb
end Go.Proofs.Ytlmjbhhapllfgaa.Pure
