import Derived.Test.YtfgiihaefabblaaS8
import Derived.Test.YtfgiihaefabblaaS9
namespace Go.Proofs.Ytfgiihaefabblaa.A
open Go.RowKit Go.Proofs.YtfgiihaefabblaaW.PrintWords Go.Proofs.YtfgiihaefabblaaW.PrintLast Go.Proofs.YtfgiihaefabblaaW.PrintMore
theorem bytes_wf {l : List Int} (h : ∀ n ∈ l, (Lit.int .u8 n).wf = true) : bytesB l = true := by
  unfold bytesB
  rw [List.all_eq_true]
  intro x hx
  have := h x hx
  simp [Lit.wf, IntKind.min, IntKind.max, IntKind.bits, IntKind.signed] at this ⊢
  omega
theorem ev3 {α β γ : Type} {f : Nat → Option α} {g : Nat → Option β} {h : Nat → Option γ} {a : α} {b : β} {c : γ} (h1 : Ev f a) (h2 : Ev g b) (h3 : Ev h c) : ∃ k, f k = some a ∧ g k = some b ∧ h k = some c := by
  obtain ⟨k1, h1⟩ := h1
  obtain ⟨k2, h2⟩ := h2
  obtain ⟨k3, h3⟩ := h3
  exact ⟨max k1 (max k2 k3), h1 _ (by omega), h2 _ (by omega), h3 _ (by omega)⟩
theorem shaTells_walk (a0 : Option Addr) (len0 cap0 : Nat) (z0 : List Int) (w : World) (w0 : (a0 = none ∧ len0 = 0 ∧ cap0 = 0 ∧ z0 = []) ∨ ∃ x, a0 = some x ∧ len0 ≤ cap0 ∧ cap0 ≤ maxLen ∧ z0.length = cap0 ∧ (∀ i, i < z0.length → w.cell? (x.add i) = some (.int .u8 (z0.getD i 0))) ∧ ∀ n ∈ z0, (Lit.int .u8 n).wf = true) :
    Calls Try.prog 3 #[.slice a0 len0 cap0] w fun e w' => e = .returned (.bool true) ∧ Below w.heap.size w w' := by
  obtain ⟨l0, rfl, hr0, hm0, hw0, hc0⟩ := ReadsInt.ofRowC w0
  by_cases hl : 2000 < l0.length
  · exact shaTells_no a0 cap0 l0 w hl
  · have f1 : ([l0] : List (List Int)).flatten = l0 := by simp
    have h1 := of_sha [l0] (by rw [f1]; omega) (by simp)
    rw [f1] at h1
    have f3 : ([[97, 98, 99]] : List (List Int)).flatten = [97, 98, 99] := by simp
    have h3 := of_sha [[97, 98, 99]] (by rw [f3]; decide) (by simp)
    rw [f3] at h3
    obtain ⟨k, e1, e2, e3⟩ := ev3 h1 (of_ref l0 (by omega) (bytes_wf hw0)) h3
    exact shaTells_yes k a0 cap0 l0 _ w (Kd.C_of_reads (d := (0 : Int)) (h1 := fun _ => rfl) hr0) hc0 (by omega) e1 e2 _ ⟨e3, abc⟩
end Go.Proofs.Ytfgiihaefabblaa.A
