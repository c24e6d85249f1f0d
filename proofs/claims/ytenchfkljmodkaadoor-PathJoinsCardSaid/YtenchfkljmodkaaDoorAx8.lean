-- a text of this claim
import Derived.Test.YtenchfkljmodkaaDoorAx2
import Derived.Test.YtenchfkljmodkaaDoorAx5
import Derived.Test.YtenchfkljmodkaaDoorAx7
import Derived.Test.YtenchfkljmodkaaDoorAx0
namespace Go.Proofs.YtenchfkljmodkaaDoor.A
open Go.RowKit Go.Proofs.YtenchfkljmodkaaDoorW.PrintWords Go.Proofs.YtenchfkljmodkaaDoorW.PrintLast Go.Proofs.YtenchfkljmodkaaDoorW.PrintMore
attribute [local go_sem] max2_int min2_int max_two min_two max_three min_three max_four min_four   -- for this text's walks alone
set_option linter.unusedVariables false
set_option linter.unusedSimpArgs false

/-! ### apostillelaw21_PathJoins: function 4 -/
def apostillelaw21_PathJoins.j0 : Nat → ByteArray → ByteArray → Bool → Option (Bool)
  | 0, _, _, _ => none
  | k + 1, x0, x1, x13 => if x13 = true then (some true) else (if x0.size + 1 ≤ 9223372036854775807 then (if (x0 ++ (⟨#[47]⟩ : ByteArray)).size + x1.size ≤ 9223372036854775807 then ((path_Is.f k ((x0 ++ (⟨#[47]⟩ : ByteArray)) ++ x1)).bind fun t160 => (if (t160 != (decide ((wrap64 ((wrap64 ((x0.size : Int) + (x1.size : Int))) + 1)) > 32))) = true then (if x0.size + 2 ≤ 9223372036854775807 then (if (x0 ++ (⟨#[47, 47]⟩ : ByteArray)).size + x1.size ≤ 9223372036854775807 then ((path_Is.f k ((x0 ++ (⟨#[47, 47]⟩ : ByteArray)) ++ x1)).bind fun t161 => (if t161 = true then (some false) else (if x0.size + 3 ≤ 9223372036854775807 then (if (x0 ++ (⟨#[47, 46, 47]⟩ : ByteArray)).size + x1.size ≤ 9223372036854775807 then ((path_Is.f k ((x0 ++ (⟨#[47, 46, 47]⟩ : ByteArray)) ++ x1)).bind fun t162 => (if t162 = true then (some false) else (if x0.size + 4 ≤ 9223372036854775807 then (if (x0 ++ (⟨#[47, 46, 46, 47]⟩ : ByteArray)).size + x1.size ≤ 9223372036854775807 then ((path_Is.f k ((x0 ++ (⟨#[47, 46, 46, 47]⟩ : ByteArray)) ++ x1)).bind fun t163 => (if t163 = true then (some false) else (if 1 + x0.size ≤ 9223372036854775807 then ((path_Is.f k ((⟨#[47]⟩ : ByteArray) ++ x0)).bind fun t164 => (if t164 = true then (some false) else ((path_Is.f k (x0 ++ (⟨#[47]⟩ : ByteArray))).bind fun t165 => (if t165 = true then (some false) else ((apostillelaw21_known.f k).bind fun t166 => (some t166)))))) else (none)))) else (none)) else (none)))) else (none)) else (none)))) else (none)) else (none)) else (some false))) else (none)) else (none))
def apostillelaw21_PathJoins.f (k : Nat) (a0 : ByteArray) (a1 : ByteArray) : Option (Bool) := (apostilleref21_Is.f k a0).bind fun t158 => (if t158 = true then ((apostilleref21_Is.f k a1).bind fun t159 => (apostillelaw21_PathJoins.j0 k a0 a1 (!t159))) else (apostillelaw21_PathJoins.j0 k a0 a1 true))
set_option maxHeartbeats 8000000 in
set_option maxRecDepth 100000 in
theorem apostillelaw21_PathJoins.calls (k : Nat) (a0 : ByteArray) (a1 : ByteArray) (r : Bool) (w : World) (hrT : r = true) (h : apostillelaw21_PathJoins.f k a0 a1 = some r) :
    Calls Tryd.prog 4 #[.string a0, .string a1] w fun e w' => e = .returned (.bool r) ∧ Below w.heap.size w w' := by
  have HB := zm (Below.refl w.heap.size w)
  have H : ((apostilleref21_Is.f k a0).bind fun t158 => (if t158 = true then ((apostilleref21_Is.f k a1).bind fun t159 => (apostillelaw21_PathJoins.j0 k a0 a1 (!t159))) else (apostillelaw21_PathJoins.j0 k a0 a1 true))) = some r := h
  clear h
  have HC3 := zm H
  clear H
  go_enter Tryd.func4, Tryd.ntmps4
  go_upto_region 1 with (fail)
  go_cut [13] (fun v13 wc => ∃ (kq : Nat) (x13_2 : Bool), v13 = .bool x13_2 ∧ Aside0 (apostillelaw21_PathJoins.j0 kq a0 a1 x13_2 = some r) ∧ Aside0 (kq ≤ k) ∧ Aside0 (Below w.heap.size w wc))
  case first =>
    have H := HC3.out
    clear HC3
    replace H := Option.bind_eq_some_iff.mp H
    obtain ⟨t158, A40, H⟩ := H
    replace H : (if t158 = true then ((apostilleref21_Is.f k a1).bind fun t159 => (apostillelaw21_PathJoins.j0 k a0 a1 (!t159))) else (apostillelaw21_PathJoins.j0 k a0 a1 true)) = some r := H
    have A4 := zm A40
    clear A40
    by_cases c5 : t158 = true
    · subst c5
      have H1 : ((apostilleref21_Is.f k a1).bind fun t159 => (apostillelaw21_PathJoins.j0 k a0 a1 (!t159))) = some r := by rw [if_pos rfl] at H; exact H
      clear H
      have H := H1
      clear H1
      replace H := Option.bind_eq_some_iff.mp H
      obtain ⟨t159, A60, H⟩ := H
      replace H : (apostillelaw21_PathJoins.j0 k a0 a1 (!t159)) = some r := H
      have A6 := zm A60
      clear A60
      have H' := zm H
      clear H
      go_wp2_with (first | ((with_reducible refine gate_callee (f := 8) rfl ?_); refine goesL_ (some 7) rfl rfl Tryd.func8 (by kernel_rfl) rfl #[.string a0] rfl (by (try simp only [zl1, zl2, zl3]); first | done | rfl | (simp only [List.length_drop, List.length_take]; rfl)) ?_; (with_reducible refine (apostilleref21_Is.calls k a0 true _ A4.out).mono ?_); rintro e w' ⟨rfl, ⟨nd, rfl⟩⟩; refine ⟨_, rfl, ?_⟩) | (go_at_call 8; (with_reducible refine (apostilleref21_Is.calls k a1 t159 _ A6.out).mono ?_); rintro e w' ⟨rfl, ⟨nd, rfl⟩⟩; (try clear A6)))
      go_meet
      case rel => exact ⟨_, (!t159), (by first | rfl | (simp; done) | (simp [*]; done)), H', ⟨by first | omega | exact Nat.le_refl _⟩, ⟨by repeat (first | (with_reducible first | exact HB.out | apply zb1 | apply zb2 | apply zb3) | exact HB.out)⟩⟩
    · replace c5 := Bool.eq_false_iff.mpr c5
      subst c5
      have H1 : (apostillelaw21_PathJoins.j0 k a0 a1 true) = some r := by rw [if_neg (show ¬ (false = true) by decide)] at H; exact H
      clear H
      have H := H1
      clear H1
      have H' := zm H
      clear H
      go_wp2_with (first | ((with_reducible refine gate_callee (f := 8) rfl ?_); refine goesL_ (some 7) rfl rfl Tryd.func8 (by kernel_rfl) rfl #[.string a0] rfl (by (try simp only [zl1, zl2, zl3]); first | done | rfl | (simp only [List.length_drop, List.length_take]; rfl)) ?_; (with_reducible refine (apostilleref21_Is.calls k a0 false _ A4.out).mono ?_); rintro e w' ⟨rfl, ⟨nd, rfl⟩⟩; refine ⟨_, rfl, ?_⟩))
      go_meet
      case rel => exact ⟨_, (true), (by first | rfl | (simp; done) | (simp [*]; done)), H', ⟨by first | omega | exact Nat.le_refl _⟩, ⟨by repeat (first | (with_reducible first | exact HB.out | apply zb1 | apply zb2 | apply zb3) | exact HB.out)⟩⟩
  case rest =>
    clear HC3
    try clear p2
    try clear c4
    try clear c5
    obtain ⟨kq, x13_2, rfl, HA, HJ2, HB⟩ := hcut
    cases kq with
    | zero => exact absurd HA.out (by simp [apostillelaw21_PathJoins.j0])
    | succ kj2 =>
      have H := HA.out
      clear HA
      simp only [apostillelaw21_PathJoins.j0] at H
      by_cases c7 : x13_2 = true
      · subst c7
        have H1 : (some true) = some r := by rw [if_pos rfl] at H; exact H
        clear H
        have H := H1
        clear H1
        obtain rfl := Option.some.inj H
        go_wp2
        go_ret
        exact ⟨by first | rfl | (simp [errW_none, errW_some] <;> rfl) | (simp [*, errW_none, errW_some] <;> rfl), by repeat (first | (with_reducible first | exact HB.out | apply zb1 | apply zb2 | apply zb3) | exact HB.out)⟩
      · replace c7 := Bool.eq_false_iff.mpr c7
        subst c7
        have H1 : (if a0.size + 1 ≤ 9223372036854775807 then (if (a0 ++ (⟨#[47]⟩ : ByteArray)).size + a1.size ≤ 9223372036854775807 then ((path_Is.f kj2 ((a0 ++ (⟨#[47]⟩ : ByteArray)) ++ a1)).bind fun t160 => (if (t160 != (decide ((wrap64 ((wrap64 ((a0.size : Int) + (a1.size : Int))) + 1)) > 32))) = true then (if a0.size + 2 ≤ 9223372036854775807 then (if (a0 ++ (⟨#[47, 47]⟩ : ByteArray)).size + a1.size ≤ 9223372036854775807 then ((path_Is.f kj2 ((a0 ++ (⟨#[47, 47]⟩ : ByteArray)) ++ a1)).bind fun t161 => (if t161 = true then (some false) else (if a0.size + 3 ≤ 9223372036854775807 then (if (a0 ++ (⟨#[47, 46, 47]⟩ : ByteArray)).size + a1.size ≤ 9223372036854775807 then ((path_Is.f kj2 ((a0 ++ (⟨#[47, 46, 47]⟩ : ByteArray)) ++ a1)).bind fun t162 => (if t162 = true then (some false) else (if a0.size + 4 ≤ 9223372036854775807 then (if (a0 ++ (⟨#[47, 46, 46, 47]⟩ : ByteArray)).size + a1.size ≤ 9223372036854775807 then ((path_Is.f kj2 ((a0 ++ (⟨#[47, 46, 46, 47]⟩ : ByteArray)) ++ a1)).bind fun t163 => (if t163 = true then (some false) else (if 1 + a0.size ≤ 9223372036854775807 then ((path_Is.f kj2 ((⟨#[47]⟩ : ByteArray) ++ a0)).bind fun t164 => (if t164 = true then (some false) else ((path_Is.f kj2 (a0 ++ (⟨#[47]⟩ : ByteArray))).bind fun t165 => (if t165 = true then (some false) else ((apostillelaw21_known.f kj2).bind fun t166 => (some t166)))))) else (none)))) else (none)) else (none)))) else (none)) else (none)))) else (none)) else (none)) else (some false))) else (none)) else (none)) = some r := by rw [if_neg (show ¬ (false = true) by decide)] at H; exact H
        clear H
        have H := H1
        clear H1
        by_cases c8 : a0.size + 1 ≤ 9223372036854775807
        · rw [if_pos c8] at H
          have c8b0 := eq_true c8
          have c8b1 : decide (a0.size + 1 ≤ 9223372036854775807) = true := decide_eq_true c8
          try have c8b2 : (9223372036854775807 < a0.size + 1) = False := eq_false (Nat.not_lt.2 c8)
          by_cases c9 : (a0 ++ (⟨#[47]⟩ : ByteArray)).size + a1.size ≤ 9223372036854775807
          · rw [if_pos c9] at H
            have c9b0 := eq_true c9
            have c9b1 : decide ((a0 ++ (⟨#[47]⟩ : ByteArray)).size + a1.size ≤ 9223372036854775807) = true := decide_eq_true c9
            try have c9b2 : (9223372036854775807 < (a0 ++ (⟨#[47]⟩ : ByteArray)).size + a1.size) = False := eq_false (Nat.not_lt.2 c9)
            replace H := Option.bind_eq_some_iff.mp H
            obtain ⟨t160, A100, H⟩ := H
            replace H : (if (t160 != (decide ((wrap64 ((wrap64 ((a0.size : Int) + (a1.size : Int))) + 1)) > 32))) = true then (if a0.size + 2 ≤ 9223372036854775807 then (if (a0 ++ (⟨#[47, 47]⟩ : ByteArray)).size + a1.size ≤ 9223372036854775807 then ((path_Is.f kj2 ((a0 ++ (⟨#[47, 47]⟩ : ByteArray)) ++ a1)).bind fun t161 => (if t161 = true then (some false) else (if a0.size + 3 ≤ 9223372036854775807 then (if (a0 ++ (⟨#[47, 46, 47]⟩ : ByteArray)).size + a1.size ≤ 9223372036854775807 then ((path_Is.f kj2 ((a0 ++ (⟨#[47, 46, 47]⟩ : ByteArray)) ++ a1)).bind fun t162 => (if t162 = true then (some false) else (if a0.size + 4 ≤ 9223372036854775807 then (if (a0 ++ (⟨#[47, 46, 46, 47]⟩ : ByteArray)).size + a1.size ≤ 9223372036854775807 then ((path_Is.f kj2 ((a0 ++ (⟨#[47, 46, 46, 47]⟩ : ByteArray)) ++ a1)).bind fun t163 => (if t163 = true then (some false) else (if 1 + a0.size ≤ 9223372036854775807 then ((path_Is.f kj2 ((⟨#[47]⟩ : ByteArray) ++ a0)).bind fun t164 => (if t164 = true then (some false) else ((path_Is.f kj2 (a0 ++ (⟨#[47]⟩ : ByteArray))).bind fun t165 => (if t165 = true then (some false) else ((apostillelaw21_known.f kj2).bind fun t166 => (some t166)))))) else (none)))) else (none)) else (none)))) else (none)) else (none)))) else (none)) else (none)) else (some false)) = some r := H
            have A10 := zm A100
            clear A100
            by_cases c11 : (t160 != (decide ((wrap64 ((wrap64 ((a0.size : Int) + (a1.size : Int))) + 1)) > 32))) = true
            · rw [if_pos c11] at H
              have c11b0 : (t160 != (decide ((wrap64 ((wrap64 ((a0.size : Int) + (a1.size : Int))) + 1)) > 32))) = true := c11
              (try (have c11b1 : decide (t160 = (decide ((wrap64 ((wrap64 ((a0.size : Int) + (a1.size : Int))) + 1)) > 32))) = false := by simpa using c11))
              (try (have c11b2 : (t160 == (decide ((wrap64 ((wrap64 ((a0.size : Int) + (a1.size : Int))) + 1)) > 32))) = false := by simpa using c11))
              (try (have c11b3 : ¬ (t160 = (decide ((wrap64 ((wrap64 ((a0.size : Int) + (a1.size : Int))) + 1)) > 32))) := by simpa using c11))
              clear c11
              by_cases c12 : a0.size + 2 ≤ 9223372036854775807
              · rw [if_pos c12] at H
                have c12b0 := eq_true c12
                have c12b1 : decide (a0.size + 2 ≤ 9223372036854775807) = true := decide_eq_true c12
                try have c12b2 : (9223372036854775807 < a0.size + 2) = False := eq_false (Nat.not_lt.2 c12)
                by_cases c13 : (a0 ++ (⟨#[47, 47]⟩ : ByteArray)).size + a1.size ≤ 9223372036854775807
                · rw [if_pos c13] at H
                  have c13b0 := eq_true c13
                  have c13b1 : decide ((a0 ++ (⟨#[47, 47]⟩ : ByteArray)).size + a1.size ≤ 9223372036854775807) = true := decide_eq_true c13
                  try have c13b2 : (9223372036854775807 < (a0 ++ (⟨#[47, 47]⟩ : ByteArray)).size + a1.size) = False := eq_false (Nat.not_lt.2 c13)
                  replace H := Option.bind_eq_some_iff.mp H
                  obtain ⟨t161, A140, H⟩ := H
                  replace H : (if t161 = true then (some false) else (if a0.size + 3 ≤ 9223372036854775807 then (if (a0 ++ (⟨#[47, 46, 47]⟩ : ByteArray)).size + a1.size ≤ 9223372036854775807 then ((path_Is.f kj2 ((a0 ++ (⟨#[47, 46, 47]⟩ : ByteArray)) ++ a1)).bind fun t162 => (if t162 = true then (some false) else (if a0.size + 4 ≤ 9223372036854775807 then (if (a0 ++ (⟨#[47, 46, 46, 47]⟩ : ByteArray)).size + a1.size ≤ 9223372036854775807 then ((path_Is.f kj2 ((a0 ++ (⟨#[47, 46, 46, 47]⟩ : ByteArray)) ++ a1)).bind fun t163 => (if t163 = true then (some false) else (if 1 + a0.size ≤ 9223372036854775807 then ((path_Is.f kj2 ((⟨#[47]⟩ : ByteArray) ++ a0)).bind fun t164 => (if t164 = true then (some false) else ((path_Is.f kj2 (a0 ++ (⟨#[47]⟩ : ByteArray))).bind fun t165 => (if t165 = true then (some false) else ((apostillelaw21_known.f kj2).bind fun t166 => (some t166)))))) else (none)))) else (none)) else (none)))) else (none)) else (none))) = some r := H
                  have A14 := zm A140
                  clear A140
                  by_cases c15 : t161 = true
                  · subst c15
                    have H1 : (some false) = some r := by rw [if_pos rfl] at H; exact H
                    clear H
                    have H := H1
                    clear H1
                    exact absurd (Option.some.inj H) (by rw [hrT]; decide)
                  · replace c15 := Bool.eq_false_iff.mpr c15
                    subst c15
                    have H1 : (if a0.size + 3 ≤ 9223372036854775807 then (if (a0 ++ (⟨#[47, 46, 47]⟩ : ByteArray)).size + a1.size ≤ 9223372036854775807 then ((path_Is.f kj2 ((a0 ++ (⟨#[47, 46, 47]⟩ : ByteArray)) ++ a1)).bind fun t162 => (if t162 = true then (some false) else (if a0.size + 4 ≤ 9223372036854775807 then (if (a0 ++ (⟨#[47, 46, 46, 47]⟩ : ByteArray)).size + a1.size ≤ 9223372036854775807 then ((path_Is.f kj2 ((a0 ++ (⟨#[47, 46, 46, 47]⟩ : ByteArray)) ++ a1)).bind fun t163 => (if t163 = true then (some false) else (if 1 + a0.size ≤ 9223372036854775807 then ((path_Is.f kj2 ((⟨#[47]⟩ : ByteArray) ++ a0)).bind fun t164 => (if t164 = true then (some false) else ((path_Is.f kj2 (a0 ++ (⟨#[47]⟩ : ByteArray))).bind fun t165 => (if t165 = true then (some false) else ((apostillelaw21_known.f kj2).bind fun t166 => (some t166)))))) else (none)))) else (none)) else (none)))) else (none)) else (none)) = some r := by rw [if_neg (show ¬ (false = true) by decide)] at H; exact H
                    clear H
                    have H := H1
                    clear H1
                    by_cases c16 : a0.size + 3 ≤ 9223372036854775807
                    · rw [if_pos c16] at H
                      have c16b0 := eq_true c16
                      have c16b1 : decide (a0.size + 3 ≤ 9223372036854775807) = true := decide_eq_true c16
                      try have c16b2 : (9223372036854775807 < a0.size + 3) = False := eq_false (Nat.not_lt.2 c16)
                      by_cases c17 : (a0 ++ (⟨#[47, 46, 47]⟩ : ByteArray)).size + a1.size ≤ 9223372036854775807
                      · rw [if_pos c17] at H
                        have c17b0 := eq_true c17
                        have c17b1 : decide ((a0 ++ (⟨#[47, 46, 47]⟩ : ByteArray)).size + a1.size ≤ 9223372036854775807) = true := decide_eq_true c17
                        try have c17b2 : (9223372036854775807 < (a0 ++ (⟨#[47, 46, 47]⟩ : ByteArray)).size + a1.size) = False := eq_false (Nat.not_lt.2 c17)
                        replace H := Option.bind_eq_some_iff.mp H
                        obtain ⟨t162, A180, H⟩ := H
                        replace H : (if t162 = true then (some false) else (if a0.size + 4 ≤ 9223372036854775807 then (if (a0 ++ (⟨#[47, 46, 46, 47]⟩ : ByteArray)).size + a1.size ≤ 9223372036854775807 then ((path_Is.f kj2 ((a0 ++ (⟨#[47, 46, 46, 47]⟩ : ByteArray)) ++ a1)).bind fun t163 => (if t163 = true then (some false) else (if 1 + a0.size ≤ 9223372036854775807 then ((path_Is.f kj2 ((⟨#[47]⟩ : ByteArray) ++ a0)).bind fun t164 => (if t164 = true then (some false) else ((path_Is.f kj2 (a0 ++ (⟨#[47]⟩ : ByteArray))).bind fun t165 => (if t165 = true then (some false) else ((apostillelaw21_known.f kj2).bind fun t166 => (some t166)))))) else (none)))) else (none)) else (none))) = some r := H
                        have A18 := zm A180
                        clear A180
                        by_cases c19 : t162 = true
                        · subst c19
                          have H1 : (some false) = some r := by rw [if_pos rfl] at H; exact H
                          clear H
                          have H := H1
                          clear H1
                          exact absurd (Option.some.inj H) (by rw [hrT]; decide)
                        · replace c19 := Bool.eq_false_iff.mpr c19
                          subst c19
                          have H1 : (if a0.size + 4 ≤ 9223372036854775807 then (if (a0 ++ (⟨#[47, 46, 46, 47]⟩ : ByteArray)).size + a1.size ≤ 9223372036854775807 then ((path_Is.f kj2 ((a0 ++ (⟨#[47, 46, 46, 47]⟩ : ByteArray)) ++ a1)).bind fun t163 => (if t163 = true then (some false) else (if 1 + a0.size ≤ 9223372036854775807 then ((path_Is.f kj2 ((⟨#[47]⟩ : ByteArray) ++ a0)).bind fun t164 => (if t164 = true then (some false) else ((path_Is.f kj2 (a0 ++ (⟨#[47]⟩ : ByteArray))).bind fun t165 => (if t165 = true then (some false) else ((apostillelaw21_known.f kj2).bind fun t166 => (some t166)))))) else (none)))) else (none)) else (none)) = some r := by rw [if_neg (show ¬ (false = true) by decide)] at H; exact H
                          clear H
                          have H := H1
                          clear H1
                          by_cases c20 : a0.size + 4 ≤ 9223372036854775807
                          · rw [if_pos c20] at H
                            have c20b0 := eq_true c20
                            have c20b1 : decide (a0.size + 4 ≤ 9223372036854775807) = true := decide_eq_true c20
                            try have c20b2 : (9223372036854775807 < a0.size + 4) = False := eq_false (Nat.not_lt.2 c20)
                            by_cases c21 : (a0 ++ (⟨#[47, 46, 46, 47]⟩ : ByteArray)).size + a1.size ≤ 9223372036854775807
                            · rw [if_pos c21] at H
                              have c21b0 := eq_true c21
                              have c21b1 : decide ((a0 ++ (⟨#[47, 46, 46, 47]⟩ : ByteArray)).size + a1.size ≤ 9223372036854775807) = true := decide_eq_true c21
                              try have c21b2 : (9223372036854775807 < (a0 ++ (⟨#[47, 46, 46, 47]⟩ : ByteArray)).size + a1.size) = False := eq_false (Nat.not_lt.2 c21)
                              replace H := Option.bind_eq_some_iff.mp H
                              obtain ⟨t163, A220, H⟩ := H
                              replace H : (if t163 = true then (some false) else (if 1 + a0.size ≤ 9223372036854775807 then ((path_Is.f kj2 ((⟨#[47]⟩ : ByteArray) ++ a0)).bind fun t164 => (if t164 = true then (some false) else ((path_Is.f kj2 (a0 ++ (⟨#[47]⟩ : ByteArray))).bind fun t165 => (if t165 = true then (some false) else ((apostillelaw21_known.f kj2).bind fun t166 => (some t166)))))) else (none))) = some r := H
                              have A22 := zm A220
                              clear A220
                              by_cases c23 : t163 = true
                              · subst c23
                                have H1 : (some false) = some r := by rw [if_pos rfl] at H; exact H
                                clear H
                                have H := H1
                                clear H1
                                exact absurd (Option.some.inj H) (by rw [hrT]; decide)
                              · replace c23 := Bool.eq_false_iff.mpr c23
                                subst c23
                                have H1 : (if 1 + a0.size ≤ 9223372036854775807 then ((path_Is.f kj2 ((⟨#[47]⟩ : ByteArray) ++ a0)).bind fun t164 => (if t164 = true then (some false) else ((path_Is.f kj2 (a0 ++ (⟨#[47]⟩ : ByteArray))).bind fun t165 => (if t165 = true then (some false) else ((apostillelaw21_known.f kj2).bind fun t166 => (some t166)))))) else (none)) = some r := by rw [if_neg (show ¬ (false = true) by decide)] at H; exact H
                                clear H
                                have H := H1
                                clear H1
                                by_cases c24 : 1 + a0.size ≤ 9223372036854775807
                                · rw [if_pos c24] at H
                                  have c24b0 := eq_true c24
                                  have c24b1 : decide (1 + a0.size ≤ 9223372036854775807) = true := decide_eq_true c24
                                  try have c24b2 : (9223372036854775807 < 1 + a0.size) = False := eq_false (Nat.not_lt.2 c24)
                                  replace H := Option.bind_eq_some_iff.mp H
                                  obtain ⟨t164, A250, H⟩ := H
                                  replace H : (if t164 = true then (some false) else ((path_Is.f kj2 (a0 ++ (⟨#[47]⟩ : ByteArray))).bind fun t165 => (if t165 = true then (some false) else ((apostillelaw21_known.f kj2).bind fun t166 => (some t166))))) = some r := H
                                  have A25 := zm A250
                                  clear A250
                                  by_cases c26 : t164 = true
                                  · subst c26
                                    have H1 : (some false) = some r := by rw [if_pos rfl] at H; exact H
                                    clear H
                                    have H := H1
                                    clear H1
                                    exact absurd (Option.some.inj H) (by rw [hrT]; decide)
                                  · replace c26 := Bool.eq_false_iff.mpr c26
                                    subst c26
                                    have H1 : ((path_Is.f kj2 (a0 ++ (⟨#[47]⟩ : ByteArray))).bind fun t165 => (if t165 = true then (some false) else ((apostillelaw21_known.f kj2).bind fun t166 => (some t166)))) = some r := by rw [if_neg (show ¬ (false = true) by decide)] at H; exact H
                                    clear H
                                    have H := H1
                                    clear H1
                                    replace H := Option.bind_eq_some_iff.mp H
                                    obtain ⟨t165, A270, H⟩ := H
                                    replace H : (if t165 = true then (some false) else ((apostillelaw21_known.f kj2).bind fun t166 => (some t166))) = some r := H
                                    have A27 := zm A270
                                    clear A270
                                    by_cases c28 : t165 = true
                                    · subst c28
                                      have H1 : (some false) = some r := by rw [if_pos rfl] at H; exact H
                                      clear H
                                      have H := H1
                                      clear H1
                                      exact absurd (Option.some.inj H) (by rw [hrT]; decide)
                                    · replace c28 := Bool.eq_false_iff.mpr c28
                                      subst c28
                                      have H1 : ((apostillelaw21_known.f kj2).bind fun t166 => (some t166)) = some r := by rw [if_neg (show ¬ (false = true) by decide)] at H; exact H
                                      clear H
                                      have H := H1
                                      clear H1
                                      replace H := Option.bind_eq_some_iff.mp H
                                      obtain ⟨t166, A290, H⟩ := H
                                      replace H : (some t166) = some r := H
                                      have A29 := zm A290
                                      clear A290
                                      obtain rfl := Option.some.inj H
                                      go_wp2_with (first | ((with_reducible refine gate_callee (f := 7) rfl ?_); refine goesL_ (some 25) rfl rfl Tryd.func7 (by kernel_rfl) rfl #[.string ((a0 ++ (⟨#[47]⟩ : ByteArray)) ++ a1)] rfl (by (try simp only [zl1, zl2, zl3]); first | done | rfl | (simp only [List.length_drop, List.length_take]; rfl)) ?_; (with_reducible refine (path_Is.calls kj2 ((a0 ++ (⟨#[47]⟩ : ByteArray)) ++ a1) t160 _ A10.out).mono ?_); rintro e w30 ⟨rfl, hb⟩; refine ⟨_, rfl, ?_⟩; have n0_ := zm (below_step (by repeat (first | (with_reducible first | exact HB.out | apply zb1 | apply zb2 | apply zb3) | exact HB.out)) hb); clear HB; have HB := n0_; clear n0_; (try clear hb); (try clear hb2); (try clear hk); (try clear hi)) | (go_at_call 7; (with_reducible refine (path_Is.calls kj2 ((a0 ++ (⟨#[47, 47]⟩ : ByteArray)) ++ a1) false _ A14.out).mono ?_); rintro e w31 ⟨rfl, hb⟩; have n0_ := zm (below_step (by repeat (first | (with_reducible first | exact HB.out | apply zb1 | apply zb2 | apply zb3) | exact HB.out)) hb); clear HB; have HB := n0_; clear n0_; (try clear hb); (try clear hb2); (try clear hk); (try clear hi); (try clear A14)) | (go_at_call 7; (with_reducible refine (path_Is.calls kj2 ((a0 ++ (⟨#[47, 46, 47]⟩ : ByteArray)) ++ a1) false _ A18.out).mono ?_); rintro e w32 ⟨rfl, hb⟩; have n0_ := zm (below_step (by repeat (first | (with_reducible first | exact HB.out | apply zb1 | apply zb2 | apply zb3) | exact HB.out)) hb); clear HB; have HB := n0_; clear n0_; (try clear hb); (try clear hb2); (try clear hk); (try clear hi); (try clear A18)) | (go_at_call 7; (with_reducible refine (path_Is.calls kj2 ((a0 ++ (⟨#[47, 46, 46, 47]⟩ : ByteArray)) ++ a1) false _ A22.out).mono ?_); rintro e w33 ⟨rfl, hb⟩; have n0_ := zm (below_step (by repeat (first | (with_reducible first | exact HB.out | apply zb1 | apply zb2 | apply zb3) | exact HB.out)) hb); clear HB; have HB := n0_; clear n0_; (try clear hb); (try clear hb2); (try clear hk); (try clear hi); (try clear A22)) | (go_at_call 7; (with_reducible refine (path_Is.calls kj2 ((⟨#[47]⟩ : ByteArray) ++ a0) false _ A25.out).mono ?_); rintro e w34 ⟨rfl, hb⟩; have n0_ := zm (below_step (by repeat (first | (with_reducible first | exact HB.out | apply zb1 | apply zb2 | apply zb3) | exact HB.out)) hb); clear HB; have HB := n0_; clear n0_; (try clear hb); (try clear hb2); (try clear hk); (try clear hi); (try clear A25)) | (go_at_call 7; (with_reducible refine (path_Is.calls kj2 (a0 ++ (⟨#[47]⟩ : ByteArray)) false _ A27.out).mono ?_); rintro e w35 ⟨rfl, hb⟩; have n0_ := zm (below_step (by repeat (first | (with_reducible first | exact HB.out | apply zb1 | apply zb2 | apply zb3) | exact HB.out)) hb); clear HB; have HB := n0_; clear n0_; (try clear hb); (try clear hb2); (try clear hk); (try clear hi); (try clear A27)) | (go_at_call 11; (with_reducible refine (apostillelaw21_known.calls kj2  t166 _ A29.out).mono ?_); rintro e w36 ⟨rfl, hb⟩; have n0_ := zm (below_step (by repeat (first | (with_reducible first | exact HB.out | apply zb1 | apply zb2 | apply zb3) | exact HB.out)) hb); clear HB; have HB := n0_; clear n0_; (try clear hb); (try clear hb2); (try clear hk); (try clear hi); (try clear A29)))
                                      go_ret
                                      exact ⟨by first | rfl | (simp [errW_none, errW_some] <;> rfl) | (simp [*, errW_none, errW_some] <;> rfl), by repeat (first | (with_reducible first | exact HB.out | apply zb1 | apply zb2 | apply zb3) | exact HB.out)⟩
                                · rw [if_neg c24] at H
                                  exact absurd H (by simp)
                            · rw [if_neg c21] at H
                              exact absurd H (by simp)
                          · rw [if_neg c20] at H
                            exact absurd H (by simp)
                      · rw [if_neg c17] at H
                        exact absurd H (by simp)
                    · rw [if_neg c16] at H
                      exact absurd H (by simp)
                · rw [if_neg c13] at H
                  exact absurd H (by simp)
              · rw [if_neg c12] at H
                exact absurd H (by simp)
            · rw [if_neg c11] at H
              have c11b0 : (t160 != (decide ((wrap64 ((wrap64 ((a0.size : Int) + (a1.size : Int))) + 1)) > 32))) = false := by simpa using c11
              (try (have c11b1 : decide (t160 = (decide ((wrap64 ((wrap64 ((a0.size : Int) + (a1.size : Int))) + 1)) > 32))) = true := by simpa using c11))
              (try (have c11b2 : (t160 == (decide ((wrap64 ((wrap64 ((a0.size : Int) + (a1.size : Int))) + 1)) > 32))) = true := by simpa using c11))
              clear c11
              exact absurd (Option.some.inj H) (by rw [hrT]; decide)
          · rw [if_neg c9] at H
            exact absurd H (by simp)
        · rw [if_neg c8] at H
          exact absurd H (by simp)

/-- THE ONE PURE STATEMENT of apostillelaw21_PathJoins: yours. -/
def apostillelaw21_PathJoins.Pure : Prop := ∀ (a0 : ByteArray) (a1 : ByteArray), a0.size ≤ 140737488351232 → a1.size ≤ 140737488351232 → ∃ k, apostillelaw21_PathJoins.f k a0 a1 = some true
theorem apostillelaw21_PathJoins.walk (P : apostillelaw21_PathJoins.Pure) (a0 : ByteArray) (a1 : ByteArray) (w : World) (w0 : a0.size ≤ 140737488351232) (w1 : a1.size ≤ 140737488351232) :
    Calls Tryd.prog 4 #[.string a0, .string a1] w fun e w' => e = .returned (.bool true) ∧ Below w.heap.size w w' := by
  obtain ⟨k, h⟩ := P a0 a1 w0 w1
  refine (apostillelaw21_PathJoins.calls k a0 a1 true w rfl h).mono ?_
  rintro e w' ⟨rfl, hd⟩
  exact ⟨rfl, hd⟩

end Go.Proofs.YtenchfkljmodkaaDoor.A
