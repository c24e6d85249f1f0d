/- Things that are handed in. Conditions: none. -/
import Derived.Test.YthmdefgepnkgiaaGO
import Derived.Test.YthmdefgepnkgiaaGK
namespace Go.Proofs.Ythmdefgepnkgiaa.Eng
open Go
set_option maxRecDepth 100000
theorem u5 : Go.Proofs.Try.prog.underlying 5 = some (.int .u8) := by kernel_rfl
theorem u22 : Go.Proofs.Try.prog.underlying 22 = some (.slice 5) := by kernel_rfl
theorem u23 : Go.Proofs.Try.prog.underlying 23 = some (.slice 25) := by kernel_rfl
theorem c25 : Go.Proofs.Try.prog.cellsOf 25 = 3 := by kernel_rfl
def isNodeD : Option TypeDesc → Bool
  | some (.struct fs) => match fs.toList with
    | [f, g, h] => Nat.beq f.type 5 && Nat.beq g.type 22 && Nat.beq h.type 23
    | _ => false
  | _ => false
theorem u25 : ∃ fs f g h, Go.Proofs.Try.prog.underlying 25 = some (.struct fs) ∧ fs.toList = [f, g, h] ∧ f.type = 5 ∧ g.type = 22 ∧ h.type = 23 := by
  have e : isNodeD (Go.Proofs.Try.prog.underlying 25) = true := by kernel_rfl
  unfold isNodeD at e
  split at e
  · rename_i fs hu
    split at e
    · rename_i f g h hl
      simp only [Bool.and_eq_true] at e
      exact ⟨fs, f, g, h, hu, hl, beq_true e.1.1, beq_true e.1.2, beq_true e.2⟩
    · cases e
  · cases e
def nodeL : List TypeId := [5, 22, 23, 25]
theorem nodeL_ok : ∀ t ∈ nodeL, tyOkL Go.Proofs.Try.prog nodeL t = true := by
  intro t ht
  simp only [nodeL, List.mem_cons, List.not_mem_nil, or_false] at ht
  rcases ht with rfl | rfl | rfl | rfl <;> kernel_rfl
theorem wf8 {n : Int} (h : (Lit.int .u8 n).wf = true) : 0 ≤ n ∧ n < 256 := by
  simp [Lit.wf, IntKind.min, IntKind.max, IntKind.signed, IntKind.bits] at h
  omega
/-- Bytes that are handed in. -/
theorem bytes_row {n : Nat} {x : DV} (h : WTf Go.Proofs.Try.prog n 22 [x]) : ∃ l, x = .ints .u8 l ∧ ∀ m ∈ l, 0 ≤ m ∧ m < 256 := by
  cases n with
  | zero => exact h.elim
  | succ n =>
    unfold WTf at h
    rw [u22] at h
    simp only [u5] at h
    obtain ⟨l, hl, hw⟩ := h
    simp only [List.cons.injEq, and_true] at hl
    exact ⟨l, hl, fun m hm => wf8 (hw m hm)⟩
theorem byte_row {n : Nat} {x : DV} (h : WTf Go.Proofs.Try.prog n 5 [x]) : ∃ m, x = .int .u8 m ∧ 0 ≤ m ∧ m < 256 := by
  cases n with
  | zero => exact h.elim
  | succ n =>
    unfold WTf at h
    rw [u5] at h
    obtain ⟨m, hm, hw⟩ := h
    simp only [List.cons.injEq, and_true] at hm
    exact ⟨m, hm, wf8 hw⟩
theorem kids_row {n : Nat} {x : DV} (h : WTf Go.Proofs.Try.prog n 23 [x]) : ∃ ks m, n = m + 1 ∧ x = .sl 3 ks ∧ ∀ k ∈ ks, WTf Go.Proofs.Try.prog m 25 k := by
  cases n with
  | zero => exact h.elim
  | succ n =>
    unfold WTf at h
    rw [u23] at h
    obtain ⟨fs, f, g, h', hu, _⟩ := u25
    simp only [hu] at h
    obtain ⟨xs, hx, hw⟩ := h
    rw [c25] at hx
    simp only [List.cons.injEq, and_true] at hx
    exact ⟨xs, n, rfl, hx, hw⟩
/-- A thing that is handed in. -/
theorem node_row {n : Nat} {row : List DV} (h : WTf Go.Proofs.Try.prog n 25 row) : ∃ t b ks m, n = m + 2 ∧ row = [.int .u8 t, .ints .u8 b, .sl 3 ks] ∧ (0 ≤ t ∧ t < 256) ∧ (∀ x ∈ b, 0 ≤ x ∧ x < 256) ∧ ∀ k ∈ ks, WTf Go.Proofs.Try.prog m 25 k := by
  cases n with
  | zero => exact h.elim
  | succ n =>
    unfold WTf at h
    obtain ⟨fs, f, g, h', hu, hl, e1, e2, e3⟩ := u25
    rw [hu] at h
    obtain ⟨rows, rfl, hr⟩ := h
    rw [hl] at hr
    cases hr with
    | cons h1 hr =>
      cases hr with
      | cons h2 hr =>
        cases hr with
        | cons h3 hr =>
          cases hr
          rw [e1] at h1
          rw [e2] at h2
          rw [e3] at h3
          have one : ∀ {t : TypeId} {r : List DV}, WTf Go.Proofs.Try.prog n t r → (t = 5 ∨ t = 22 ∨ t = 23) → ∃ x, r = [x] := by
            intro t r hw ht
            cases n with
            | zero => exact hw.elim
            | succ n =>
              unfold WTf at hw
              rcases ht with rfl | rfl | rfl
              · rw [u5] at hw; obtain ⟨m, rfl, _⟩ := hw; exact ⟨_, rfl⟩
              · rw [u22] at hw; simp only [u5] at hw; obtain ⟨m, rfl, _⟩ := hw; exact ⟨_, rfl⟩
              · rw [u23] at hw; simp only [hu] at hw; obtain ⟨m, rfl, _⟩ := hw; exact ⟨_, rfl⟩
          obtain ⟨x, rfl⟩ := one h1 (.inl rfl)
          obtain ⟨y, rfl⟩ := one h2 (.inr (.inl rfl))
          obtain ⟨z, rfl⟩ := one h3 (.inr (.inr rfl))
          obtain ⟨t, rfl, ht⟩ := byte_row h1
          obtain ⟨b, rfl, hb⟩ := bytes_row h2
          obtain ⟨ks, m, hm, rfl, hk⟩ := kids_row h3
          exact ⟨t, b, ks, m, by omega, rfl, ht, hb, hk⟩
section
variable {H : Type} {enc : TypeId × Value → H} {w : World} {base : Nat} {spare : Nat → Bool} {held : Bool}
theorem node_arg {r : Reach} {b0 : Nat} {v : Value} (hv : Value.okWide Go.Proofs.Try.prog w r b0 25 v) {d : DataW H} {p : List MemPlace} (h : DataW.Trod enc Go.Proofs.Try.prog w base spare held 25 v d p) :
    ∃ t b ks m, RepA (gh0 w) w (.one true [.d (.int .u8 t), .d (.ints .u8 b), .d (.sl 3 ks)]) v ∧ (0 ≤ t ∧ t < 256) ∧ (∀ x ∈ b, 0 ≤ x ∧ x < 256) ∧ ∀ k ∈ ks, WTf Go.Proofs.Try.prog m 25 k := by
  obtain ⟨fs, f, g, h', hu, _⟩ := u25
  unfold Value.okWide at hv
  rw [hu] at hv
  obtain ⟨cs, rfl, _⟩ := hv
  obtain ⟨n, row, h1, h2⟩ := arg_agg nodeL_ok (by simp [nodeL]) h
  obtain ⟨t, b, ks, m, _, rfl, ht, hb, hk⟩ := node_row h1
  exact ⟨t, b, ks, m, h2, ht, hb, hk⟩
theorem bytes_arg {r : Reach} {b0 : Nat} {v : Value} (hv : Value.okWide Go.Proofs.Try.prog w r b0 22 v) {d : DataW H} {p : List MemPlace} (h : DataW.Trod enc Go.Proofs.Try.prog w base spare held 22 v d p) :
    ∃ l, RepA (gh0 w) w (.one false [.d (.ints .u8 l)]) v ∧ ∀ x ∈ l, 0 ≤ x ∧ x < 256 := by
  obtain ⟨a, len, cap, rfl⟩ := Go.WideShapes.okWide_slice u22 hv
  obtain ⟨n, x, h1, h2⟩ := arg_one nodeL_ok (by simp [nodeL]) rfl h
  obtain ⟨l, rfl, hl⟩ := bytes_row h1
  exact ⟨l, h2, hl⟩
end
end Go.Proofs.Ythmdefgepnkgiaa.Eng
