import Derived.Test.YtfgiihaefabblaaS12
import Derived.Test.YtfgiihaefabblaaS11
namespace Go.Proofs.Ytfgiihaefabblaa.A
open Go.RowKit Go.Proofs.YtfgiihaefabblaaW.PrintWords Go.Proofs.YtfgiihaefabblaaW.PrintLast Go.Proofs.YtfgiihaefabblaaW.PrintMore
set_option maxRecDepth 100000 in
theorem dig0 : strOfNums (digF (padF (ofB str0))) = ⟨#[227, 176, 196, 66, 152, 252, 28, 20, 154, 251, 244, 200, 153, 111, 185, 36, 39, 174, 65, 228, 100, 155, 147, 76, 164, 149, 153, 27, 120, 82, 184, 85]⟩ := by kernel_rfl
set_option maxRecDepth 100000 in
theorem dig1 : strOfNums (digF (padF (ofB str1))) = ⟨#[36, 141, 106, 97, 210, 6, 56, 184, 229, 192, 38, 147, 12, 62, 96, 57, 163, 60, 228, 89, 100, 255, 33, 103, 246, 236, 237, 212, 25, 219, 6, 193]⟩ := by kernel_rfl
theorem ev2 {α β : Type} {f : Nat → Option α} {g : Nat → Option β} {a : α} {b : β} (h1 : Ev f a) (h2 : Ev g b) : ∃ k, f k = some a ∧ g k = some b := by
  obtain ⟨k1, h1⟩ := h1
  obtain ⟨k2, h2⟩ := h2
  exact ⟨max k1 k2, h1 _ (by omega), h2 _ (by omega)⟩
theorem of_one (b : List Int) (h : b.length < 1000000) : Ev (fun k => sha_Of.f k [b]) (digF (padF b)) := by
  have f1 : ([b] : List (List Int)).flatten = b := by simp
  have h1 := of_sha [b] (by rw [f1]; exact h) (by simp)
  rw [f1] at h1
  exact h1
theorem shaKnown_walk (a : Int) (w : World) : Calls Try.prog 6 #[.int .i64 a] w fun e w' => e = .returned (.bool true) ∧ Below w.heap.size w w' := by
  by_cases h : a < 0 ∨ 2 ≤ a
  · exact shaKnown_no a w h
  · rcases (show a = 0 ∨ a = 1 by omega) with rfl | rfl
    · obtain ⟨k, e1, e2⟩ := ev2 (of_one (ofB str0) (by rw [ofB_len]; decide)) known6
      exact shaKnown_0 k w _ e1 dig0 e2
    · obtain ⟨k, e1, e2⟩ := ev2 (of_one (ofB str1) (by rw [ofB_len]; decide)) known6
      exact shaKnown_1 k w _ e1 dig1 e2
end Go.Proofs.Ytfgiihaefabblaa.A
