/- Edges of sums, powers and inverses by hand: each of the five ways comes to true, by reckoning; every other way is let through. -/
import Derived.Test.YtgdkbfipjeinjaaAx19
namespace Go.Proofs.Ytgdkbfipjeinjaa.Pure
open Go.RowKit Go.Proofs.Ytgdkbfipjeinjaa.A Go.Proofs.YtgdkbfipjeinjaaW.PrintWords Go.Proofs.YtgdkbfipjeinjaaW.PrintLast
set_option linter.unusedVariables false
set_option linter.unusedSimpArgs false

theorem ModKnown : apostillelaw8_ModKnown.Pure := by
  intro a0 _
  by_cases h0 : a0 = 0
  · subst h0; exact ⟨120, by kernel_rfl⟩
  · by_cases h1 : a0 = 1
    · subst h1; exact ⟨120, by kernel_rfl⟩
    · by_cases h2 : a0 = 2
      · subst h2; exact ⟨120, by kernel_rfl⟩
      · by_cases h3 : a0 = 3
        · subst h3; exact ⟨120, by kernel_rfl⟩
        · by_cases h4 : a0 = 4
          · subst h4; exact ⟨120, by kernel_rfl⟩
          · refine ⟨0, ?_⟩
            unfold apostillelaw8_ModKnown.f
            simp only [Option.bind_some]
            rw [if_neg h0, if_neg h1, if_neg h2, if_neg h3, if_neg h4]
end Go.Proofs.Ytgdkbfipjeinjaa.Pure
