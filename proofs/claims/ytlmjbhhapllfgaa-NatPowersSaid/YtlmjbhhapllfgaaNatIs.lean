/- Which rows of digits are numbers, and how long sums and products are. -/
import Derived.Test.YtlmjbhhapllfgaaAx2
import Derived.Test.YtlmjbhhapllfgaaAx13
import Derived.Test.YtlmjbhhapllfgaaAx15
import Derived.Test.YtlmjbhhapllfgaaNatMq
namespace Go.Proofs.Ytlmjbhhapllfgaa.V
open Go.RowKit Go.Proofs.Ytlmjbhhapllfgaa.A Go.Proofs.YtlmjbhhapllfgaaW.PrintWords Go.Proofs.YtlmjbhhapllfgaaW.PrintLast
set_option linter.unusedVariables false
set_option linter.unusedSimpArgs false

def isb (l : List Int) : Bool := decide (l.length ≤ 256) && (decide (l.length = 0) || decide (rd l ((l.length : Int) - 1) ≠ 0))
theorem isN {l : List Int} (h : l.length < 140737488355328) : nat_Is.f l = some (isb l) := by
  unfold nat_Is.f isb
  by_cases h1 : l.length ≤ 256
  · rw [if_pos (by omega)]
    by_cases h2 : l.length = 0
    · rw [if_pos (by omega)]; simp [h2]
    · rw [if_neg (by omega), w64 _ (by omega) (by omega), if_pos (by omega), if_pos (by omega)]
      simp only [h1, h2, bne, decide_true, decide_false, Bool.true_and, Bool.false_or]
      congr 1
      rw [Bool.eq_iff_iff]
      simp
  · rw [if_neg (by omega)]; simp [h1]
theorem refisN {l : List Int} (h : l.length < 140737488355328) : apostilleref7_Is.f l = some (isb l) := isN h
theorem isb_canon {l : List Int} (hw : W l) (h : isb l = true) : Canon l ∧ l.length ≤ 256 := by
  unfold isb at h
  simp at h
  refine ⟨⟨hw, fun hp => ?_⟩, h.1⟩
  rcases h.2 with h2 | h2
  · subst h2; simp at hp
  · exact h2
theorem wf_W {l : List Int} (h : ∀ x ∈ l, (Lit.int .u32 x).wf = true) : W l := fun x hx => by
  have := h x hx
  simp [Lit.wf, IntKind.min, IntKind.max, IntKind.signed, IntKind.bits] at this
  omega
theorem nm_small {V : Nat} (k : Nat) (h : V < 4294967296 ^ k) (hk : k ≤ 100000) : (nm V).length < 17592186044416 := by
  have := nm_len_lt h
  omega
theorem subR_1 (a b : Nat) : (subR a b).1 = nm (a - b) := by
  unfold subR
  by_cases h : a < b
  · rw [if_pos h, show a - b = 0 by omega, nm_zero]
  · rw [if_neg h]
theorem add_small {a b : List Int} (ha : W a) (hb : W b) (n : Nat) (h1 : a.length ≤ n) (h2 : b.length ≤ n) : val a + val b < 4294967296 ^ (n + 1) := by
  have e1 := Nat.lt_of_lt_of_le (val_lt ha) (Nat.pow_le_pow_right (n := 4294967296) (by omega) h1)
  have e2 := Nat.lt_of_lt_of_le (val_lt hb) (Nat.pow_le_pow_right (n := 4294967296) (by omega) h2)
  rw [pow_succ']
  omega
theorem mul_small {a b : List Int} (ha : W a) (hb : W b) (n : Nat) (h1 : a.length + b.length ≤ n) : val a * val b < 4294967296 ^ n := by
  refine Nat.lt_of_lt_of_le (Nat.mul_lt_mul'' (val_lt ha) (val_lt hb)) ?_
  rw [← Nat.pow_add]
  exact Nat.pow_le_pow_right (by omega) h1
theorem known1 : Ev (fun k => (apostillelaw7_known.f k).bind fun t => some t) true := Ev.bind (f := fun _ t => some t) known (Ev.now _)
end Go.Proofs.Ytlmjbhhapllfgaa.V
