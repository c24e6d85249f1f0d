-- a text of this claim
import Derived.Test.YtenchfkljmodkaaDoorAx2
import Derived.Test.YtenchfkljmodkaaDoorAx3
import Derived.Test.YtenchfkljmodkaaDoorAx5
import Derived.Test.YtenchfkljmodkaaDoorAx6
import Derived.Test.YtenchfkljmodkaaDoorAx7
import Derived.Test.YtenchfkljmodkaaDoorAx0
namespace Go.Proofs.YtenchfkljmodkaaDoor.A
open Go.RowKit Go.Proofs.YtenchfkljmodkaaDoorW.PrintWords Go.Proofs.YtenchfkljmodkaaDoorW.PrintLast Go.Proofs.YtenchfkljmodkaaDoorW.PrintMore
attribute [local go_sem] max2_int min2_int max_two min_two max_three min_three max_four min_four   -- for this text's walks alone
set_option linter.unusedVariables false
set_option linter.unusedSimpArgs false

/-! ### apostillelaw21_PathTells: function 3 -/
def apostillelaw21_PathTells.j0 : Nat → ByteArray → List ByteArray → Bool → Option (Bool)
  | 0, _, _, _ => none
  | k + 1, x0, x1, x12 => if x12 = true then (some true) else ((path_Is.f k x0).bind fun t153 => ((apostilleref21_Is.f k x0).bind fun t154 => (if (t153 == t154) = true then ((path_All.f k x1).bind fun t155 => ((apostilleref21_All.f k x1).bind fun t156 => (if (t155 == t156) = true then ((apostillelaw21_known.f k).bind fun t157 => (some t157)) else (some false)))) else (some false))))
def apostillelaw21_PathTells.f (k : Nat) (a0 : ByteArray) (l1 : List ByteArray) : Option (Bool) := if (a0.size : Int) > 100 then (apostillelaw21_PathTells.j0 k a0 l1 true) else (apostillelaw21_PathTells.j0 k a0 l1 (decide ((l1.length : Int) > 20)))
set_option maxHeartbeats 8000000 in
set_option maxRecDepth 100000 in
theorem apostillelaw21_PathTells.calls (k : Nat) (a0 : ByteArray) (A1 : Option Addr) (c1 : Nat) (l1 : List ByteArray) (r : Bool) (w : World) (hr1 : Kd.C Kd.string w A1 l1.length l1) (hc1 : l1.length ≤ c1) (hrT : r = true) (h : apostillelaw21_PathTells.f k a0 l1 = some r) :
    Calls Tryd.prog 3 #[.string a0, .slice A1 l1.length c1] w fun e w' => e = .returned (.bool r) ∧ Below w.heap.size w w' := by
  have HR1 := zm hr1
  have HC1 := zm hc1
  clear hr1 hc1
  have HB := zm (Below.refl w.heap.size w)
  have H : (if (a0.size : Int) > 100 then (apostillelaw21_PathTells.j0 k a0 l1 true) else (apostillelaw21_PathTells.j0 k a0 l1 (decide ((l1.length : Int) > 20)))) = some r := h
  clear h
  have HC3 := zm H
  clear H
  go_enter Tryd.func3, Tryd.ntmps3
  go_upto_region 1 with (fail)
  go_cut [12] (fun v12 wc => ∃ (kq : Nat) (x12_2 : Bool), v12 = .bool x12_2 ∧ Aside0 (apostillelaw21_PathTells.j0 kq a0 l1 x12_2 = some r) ∧ Aside0 (kq ≤ k) ∧ Aside0 (Below w.heap.size w wc))
  case first =>
    have H := HC3.out
    clear HC3
    by_cases c4 : (a0.size : Int) > 100
    · rw [if_pos c4] at H
      have c4b0 : decide (100 < (a0.size : Int)) = true := decide_eq_true c4
      have c4b1 : decide (100 < a0.size) = true := decide_eq_true (by omega)
      clear c4
      (first | rw [c4b0] | (simp only [i64_w, i32_w]; rw [c4b0]) | skip)
      have H' := zm H
      clear H
      go_wp2
      go_meet
      case rel => exact ⟨_, (true), (by first | rfl | (simp; done) | (simp [*]; done)), H', ⟨by first | omega | exact Nat.le_refl _⟩, ⟨by repeat (first | (with_reducible first | exact HB.out | apply zb1 | apply zb2 | apply zb3) | exact HB.out)⟩⟩
    · rw [if_neg c4] at H
      have c4b0 : decide (100 < (a0.size : Int)) = false := decide_eq_false c4
      have c4b1 : decide (100 < a0.size) = false := decide_eq_false (by omega)
      clear c4
      (first | rw [c4b0] | (simp only [i64_w, i32_w]; rw [c4b0]) | skip)
      have H' := zm H
      clear H
      go_wp2
      go_meet
      case rel => exact ⟨_, (decide ((l1.length : Int) > 20)), (by first | rfl | (simp; done) | (simp [*]; done)), H', ⟨by first | omega | exact Nat.le_refl _⟩, ⟨by repeat (first | (with_reducible first | exact HB.out | apply zb1 | apply zb2 | apply zb3) | exact HB.out)⟩⟩
  case rest =>
    clear HC3
    try clear c1
    try clear p2
    try clear c3
    try clear c4
    try clear c4b0
    try clear c4b1
    obtain ⟨kq, x12_2, rfl, HA, HJ2, HB⟩ := hcut
    cases kq with
    | zero => exact absurd HA.out (by simp [apostillelaw21_PathTells.j0])
    | succ kj2 =>
      have H := HA.out
      clear HA
      simp only [apostillelaw21_PathTells.j0] at H
      by_cases c5 : x12_2 = true
      · subst c5
        have H1 : (some true) = some r := by rw [if_pos rfl] at H; exact H
        clear H
        have H := H1
        clear H1
        obtain rfl := Option.some.inj H
        go_wp2
        go_ret
        exact ⟨by first | rfl | (simp [errW_none, errW_some] <;> rfl) | (simp [*, errW_none, errW_some] <;> rfl), by repeat (first | (with_reducible first | exact HB.out | apply zb1 | apply zb2 | apply zb3) | exact HB.out)⟩
      · replace c5 := Bool.eq_false_iff.mpr c5
        subst c5
        have H1 : ((path_Is.f kj2 a0).bind fun t153 => ((apostilleref21_Is.f kj2 a0).bind fun t154 => (if (t153 == t154) = true then ((path_All.f kj2 l1).bind fun t155 => ((apostilleref21_All.f kj2 l1).bind fun t156 => (if (t155 == t156) = true then ((apostillelaw21_known.f kj2).bind fun t157 => (some t157)) else (some false)))) else (some false)))) = some r := by rw [if_neg (show ¬ (false = true) by decide)] at H; exact H
        clear H
        have H := H1
        clear H1
        replace H := Option.bind_eq_some_iff.mp H
        obtain ⟨t153, A60, H⟩ := H
        replace H : ((apostilleref21_Is.f kj2 a0).bind fun t154 => (if (t153 == t154) = true then ((path_All.f kj2 l1).bind fun t155 => ((apostilleref21_All.f kj2 l1).bind fun t156 => (if (t155 == t156) = true then ((apostillelaw21_known.f kj2).bind fun t157 => (some t157)) else (some false)))) else (some false))) = some r := H
        have A6 := zm A60
        clear A60
        replace H := Option.bind_eq_some_iff.mp H
        obtain ⟨t154, A70, H⟩ := H
        replace H : (if (t153 == t154) = true then ((path_All.f kj2 l1).bind fun t155 => ((apostilleref21_All.f kj2 l1).bind fun t156 => (if (t155 == t156) = true then ((apostillelaw21_known.f kj2).bind fun t157 => (some t157)) else (some false)))) else (some false)) = some r := H
        have A7 := zm A70
        clear A70
        by_cases c8 : (t153 == t154) = true
        · rw [if_pos c8] at H
          have c8b0 : (t153 == t154) = true := c8
          (try (have c8b1 : decide (t153 = t154) = true := by simpa using c8))
          (try (have c8b2 : (t153 == t154) = true := by simpa using c8))
          clear c8
          replace H := Option.bind_eq_some_iff.mp H
          obtain ⟨t155, A90, H⟩ := H
          replace H : ((apostilleref21_All.f kj2 l1).bind fun t156 => (if (t155 == t156) = true then ((apostillelaw21_known.f kj2).bind fun t157 => (some t157)) else (some false))) = some r := H
          have A9 := zm A90
          clear A90
          replace H := Option.bind_eq_some_iff.mp H
          obtain ⟨t156, A100, H⟩ := H
          replace H : (if (t155 == t156) = true then ((apostillelaw21_known.f kj2).bind fun t157 => (some t157)) else (some false)) = some r := H
          have A10 := zm A100
          clear A100
          by_cases c11 : (t155 == t156) = true
          · rw [if_pos c11] at H
            have c11b0 : (t155 == t156) = true := c11
            (try (have c11b1 : decide (t155 = t156) = true := by simpa using c11))
            (try (have c11b2 : (t155 == t156) = true := by simpa using c11))
            clear c11
            replace H := Option.bind_eq_some_iff.mp H
            obtain ⟨t157, A120, H⟩ := H
            replace H : (some t157) = some r := H
            have A12 := zm A120
            clear A120
            obtain rfl := Option.some.inj H
            go_wp2_with (first | ((with_reducible refine gate_callee (f := 7) rfl ?_); refine goesL_ (some 14) rfl rfl Tryd.func7 (by kernel_rfl) rfl #[.string a0] rfl (by (try simp only [zl1, zl2, zl3]); first | done | rfl | (simp only [List.length_drop, List.length_take]; rfl)) ?_; (with_reducible refine (path_Is.calls kj2 a0 t153 _ A6.out).mono ?_); rintro e w13 ⟨rfl, hb⟩; refine ⟨_, rfl, ?_⟩; have n0_ := zm (below_step (by repeat (first | (with_reducible first | exact HB.out | apply zb1 | apply zb2 | apply zb3) | exact HB.out)) hb); clear HB; have HB := n0_; clear n0_; (try clear hb); (try clear hb2); (try clear hk); (try clear hi)) | ((with_reducible refine gate_callee (f := 8) rfl ?_); refine goesL_ (some 16) rfl rfl Tryd.func8 (by kernel_rfl) rfl #[.string a0] rfl (by (try simp only [zl1, zl2, zl3]); first | done | rfl | (simp only [List.length_drop, List.length_take]; rfl)) ?_; (with_reducible refine (apostilleref21_Is.calls kj2 a0 t154 _ A7.out).mono ?_); rintro e w' ⟨rfl, ⟨nd, rfl⟩⟩; refine ⟨_, rfl, ?_⟩) | (go_at_call 9; (with_reducible refine (path_All.calls kj2 _ _ l1 t155 _ ?side1 ?side2 A9.out).mono ?_); (case side1 => repeat (first | exact (Kd.C_below HR1.out (by repeat (first | (with_reducible first | exact HB.out | apply zb1 | apply zb2 | apply zb3) | exact HB.out))) | (with_reducible refine zc1 ?_ _) | (with_reducible refine zc2 ?_ _) | (with_reducible refine zc3 ?_))); (case side2 => exact HC1.out); rintro e w14 ⟨rfl, hb⟩; have n0_ := zm (below_step (by repeat (first | (with_reducible first | exact HB.out | apply zb1 | apply zb2 | apply zb3) | exact HB.out)) hb); clear HB; have HB := n0_; clear n0_; (try clear hb); (try clear hb2); (try clear hk); (try clear hi); (try clear A9)) | (go_at_call 10; (with_reducible refine (apostilleref21_All.calls kj2 _ _ l1 t156 _ ?side1 ?side2 A10.out).mono ?_); (case side1 => repeat (first | exact (Kd.C_below HR1.out HB.out) | (with_reducible refine zc1 ?_ _) | (with_reducible refine zc2 ?_ _) | (with_reducible refine zc3 ?_))); (case side2 => exact HC1.out); rintro e w' ⟨rfl, ⟨nd, rfl⟩⟩; (try clear A10)) | (go_at_call 11; (with_reducible refine (apostillelaw21_known.calls kj2  t157 _ A12.out).mono ?_); rintro e w15 ⟨rfl, hb⟩; have n0_ := zm (below_step (by repeat (first | (with_reducible first | exact HB.out | apply zb1 | apply zb2 | apply zb3) | exact HB.out)) hb); clear HB; have HB := n0_; clear n0_; (try clear hb); (try clear hb2); (try clear hk); (try clear hi); (try clear A12)))
            go_ret
            exact ⟨by first | rfl | (simp [errW_none, errW_some] <;> rfl) | (simp [*, errW_none, errW_some] <;> rfl), by repeat (first | (with_reducible first | exact HB.out | apply zb1 | apply zb2 | apply zb3) | exact HB.out)⟩
          · rw [if_neg c11] at H
            have c11b0 : (t155 == t156) = false := by simpa using c11
            (try (have c11b1 : decide (t155 = t156) = false := by simpa using c11))
            (try (have c11b2 : (t155 == t156) = false := by simpa using c11))
            (try (have c11b3 : ¬ (t155 = t156) := by simpa using c11))
            clear c11
            exact absurd (Option.some.inj H) (by rw [hrT]; decide)
        · rw [if_neg c8] at H
          have c8b0 : (t153 == t154) = false := by simpa using c8
          (try (have c8b1 : decide (t153 = t154) = false := by simpa using c8))
          (try (have c8b2 : (t153 == t154) = false := by simpa using c8))
          (try (have c8b3 : ¬ (t153 = t154) := by simpa using c8))
          clear c8
          exact absurd (Option.some.inj H) (by rw [hrT]; decide)

end Go.Proofs.YtenchfkljmodkaaDoor.A
