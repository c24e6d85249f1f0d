-- a text of this claim
import Derived.Test.YtenchfkljmodkaaDoorAx2
import Derived.Test.YtenchfkljmodkaaDoorAx3
import Derived.Test.YtenchfkljmodkaaDoorAx0
namespace Go.Proofs.YtenchfkljmodkaaDoor.A
open Go.RowKit Go.Proofs.YtenchfkljmodkaaDoorW.PrintWords Go.Proofs.YtenchfkljmodkaaDoorW.PrintLast Go.Proofs.YtenchfkljmodkaaDoorW.PrintMore
attribute [local go_sem] max2_int min2_int max_two min_two max_three min_three max_four min_four   -- for this text's walks alone
set_option linter.unusedVariables false
set_option linter.unusedSimpArgs false

/-! ### apostillelaw21_known: function 11 -/
def apostillelaw21_known.f (k : Nat)  : Option (Bool) := (path_Is.f k (⟨#[97, 47, 98, 46, 99]⟩ : ByteArray)).bind fun t141 => (if t141 = true then ((path_Is.f k (⟨#[97, 47, 46, 46, 47, 98]⟩ : ByteArray)).bind fun t142 => (if t142 = true then (some false) else ((path_Is.f k (⟨#[47, 97]⟩ : ByteArray)).bind fun t143 => (if t143 = true then (some false) else ((path_Is.f k (⟨#[]⟩ : ByteArray)).bind fun t144 => (if t144 = true then (some false) else ((path_All.f k (([(⟨#[97, 47, 98]⟩ : ByteArray), (⟨#[97, 47, 99]⟩ : ByteArray)] : List ByteArray))).bind fun t148 => (if t148 = true then ((path_All.f k (([(⟨#[97]⟩ : ByteArray), (⟨#[97, 47, 98]⟩ : ByteArray)] : List ByteArray))).bind fun t152 => (some (!t152))) else (some false))))))))) else (some false))
set_option maxHeartbeats 8000000 in
set_option maxRecDepth 100000 in
theorem apostillelaw21_known.calls (k : Nat)  (r : Bool) (w : World) (h : apostillelaw21_known.f k  = some r) :
    Calls Tryd.prog 11 #[] w fun e w' => e = .returned (.bool r) ∧ Below w.heap.size w w' := by
  have HB := zm (Below.refl w.heap.size w)
  have H : ((path_Is.f k (⟨#[97, 47, 98, 46, 99]⟩ : ByteArray)).bind fun t141 => (if t141 = true then ((path_Is.f k (⟨#[97, 47, 46, 46, 47, 98]⟩ : ByteArray)).bind fun t142 => (if t142 = true then (some false) else ((path_Is.f k (⟨#[47, 97]⟩ : ByteArray)).bind fun t143 => (if t143 = true then (some false) else ((path_Is.f k (⟨#[]⟩ : ByteArray)).bind fun t144 => (if t144 = true then (some false) else ((path_All.f k (([(⟨#[97, 47, 98]⟩ : ByteArray), (⟨#[97, 47, 99]⟩ : ByteArray)] : List ByteArray))).bind fun t148 => (if t148 = true then ((path_All.f k (([(⟨#[97]⟩ : ByteArray), (⟨#[97, 47, 98]⟩ : ByteArray)] : List ByteArray))).bind fun t152 => (some (!t152))) else (some false))))))))) else (some false))) = some r := h
  clear h
  replace H := Option.bind_eq_some_iff.mp H
  obtain ⟨t141, A10, H⟩ := H
  replace H : (if t141 = true then ((path_Is.f k (⟨#[97, 47, 46, 46, 47, 98]⟩ : ByteArray)).bind fun t142 => (if t142 = true then (some false) else ((path_Is.f k (⟨#[47, 97]⟩ : ByteArray)).bind fun t143 => (if t143 = true then (some false) else ((path_Is.f k (⟨#[]⟩ : ByteArray)).bind fun t144 => (if t144 = true then (some false) else ((path_All.f k (([(⟨#[97, 47, 98]⟩ : ByteArray), (⟨#[97, 47, 99]⟩ : ByteArray)] : List ByteArray))).bind fun t148 => (if t148 = true then ((path_All.f k (([(⟨#[97]⟩ : ByteArray), (⟨#[97, 47, 98]⟩ : ByteArray)] : List ByteArray))).bind fun t152 => (some (!t152))) else (some false))))))))) else (some false)) = some r := H
  have A1 := zm A10
  clear A10
  by_cases c2 : t141 = true
  · subst c2
    have H1 : ((path_Is.f k (⟨#[97, 47, 46, 46, 47, 98]⟩ : ByteArray)).bind fun t142 => (if t142 = true then (some false) else ((path_Is.f k (⟨#[47, 97]⟩ : ByteArray)).bind fun t143 => (if t143 = true then (some false) else ((path_Is.f k (⟨#[]⟩ : ByteArray)).bind fun t144 => (if t144 = true then (some false) else ((path_All.f k (([(⟨#[97, 47, 98]⟩ : ByteArray), (⟨#[97, 47, 99]⟩ : ByteArray)] : List ByteArray))).bind fun t148 => (if t148 = true then ((path_All.f k (([(⟨#[97]⟩ : ByteArray), (⟨#[97, 47, 98]⟩ : ByteArray)] : List ByteArray))).bind fun t152 => (some (!t152))) else (some false))))))))) = some r := by rw [if_pos rfl] at H; exact H
    clear H
    have H := H1
    clear H1
    replace H := Option.bind_eq_some_iff.mp H
    obtain ⟨t142, A30, H⟩ := H
    replace H : (if t142 = true then (some false) else ((path_Is.f k (⟨#[47, 97]⟩ : ByteArray)).bind fun t143 => (if t143 = true then (some false) else ((path_Is.f k (⟨#[]⟩ : ByteArray)).bind fun t144 => (if t144 = true then (some false) else ((path_All.f k (([(⟨#[97, 47, 98]⟩ : ByteArray), (⟨#[97, 47, 99]⟩ : ByteArray)] : List ByteArray))).bind fun t148 => (if t148 = true then ((path_All.f k (([(⟨#[97]⟩ : ByteArray), (⟨#[97, 47, 98]⟩ : ByteArray)] : List ByteArray))).bind fun t152 => (some (!t152))) else (some false)))))))) = some r := H
    have A3 := zm A30
    clear A30
    by_cases c4 : t142 = true
    · subst c4
      have H1 : (some false) = some r := by rw [if_pos rfl] at H; exact H
      clear H
      have H := H1
      clear H1
      obtain rfl := Option.some.inj H
      go_enter Tryd.func11, Tryd.ntmps11
      go_wp2_with (first | ((with_reducible refine gate_callee (f := 7) rfl ?_); refine goesL_ (some 1) rfl rfl Tryd.func7 (by kernel_rfl) rfl #[.string (⟨#[97, 47, 98, 46, 99]⟩ : ByteArray)] rfl (by (try simp only [zl1, zl2, zl3]); first | done | rfl | (simp only [List.length_drop, List.length_take]; rfl)) ?_; (with_reducible refine (path_Is.calls k (⟨#[97, 47, 98, 46, 99]⟩ : ByteArray) true _ A1.out).mono ?_); rintro e w5 ⟨rfl, hb⟩; refine ⟨_, rfl, ?_⟩; have n0_ := zm (below_step (by repeat (first | (with_reducible first | exact HB.out | apply zb1 | apply zb2 | apply zb3) | exact HB.out)) hb); clear HB; have HB := n0_; clear n0_; (try clear hb); (try clear hb2); (try clear hk); (try clear hi)) | (go_at_call 7; (with_reducible refine (path_Is.calls k (⟨#[97, 47, 46, 46, 47, 98]⟩ : ByteArray) true _ A3.out).mono ?_); rintro e w6 ⟨rfl, hb⟩; have n0_ := zm (below_step (by repeat (first | (with_reducible first | exact HB.out | apply zb1 | apply zb2 | apply zb3) | exact HB.out)) hb); clear HB; have HB := n0_; clear n0_; (try clear hb); (try clear hb2); (try clear hk); (try clear hi); (try clear A3)))
      go_ret
      exact ⟨by first | rfl | (simp [errW_none, errW_some] <;> rfl) | (simp [*, errW_none, errW_some] <;> rfl), by repeat (first | (with_reducible first | exact HB.out | apply zb1 | apply zb2 | apply zb3) | exact HB.out)⟩
    · replace c4 := Bool.eq_false_iff.mpr c4
      subst c4
      have H1 : ((path_Is.f k (⟨#[47, 97]⟩ : ByteArray)).bind fun t143 => (if t143 = true then (some false) else ((path_Is.f k (⟨#[]⟩ : ByteArray)).bind fun t144 => (if t144 = true then (some false) else ((path_All.f k (([(⟨#[97, 47, 98]⟩ : ByteArray), (⟨#[97, 47, 99]⟩ : ByteArray)] : List ByteArray))).bind fun t148 => (if t148 = true then ((path_All.f k (([(⟨#[97]⟩ : ByteArray), (⟨#[97, 47, 98]⟩ : ByteArray)] : List ByteArray))).bind fun t152 => (some (!t152))) else (some false))))))) = some r := by rw [if_neg (show ¬ (false = true) by decide)] at H; exact H
      clear H
      have H := H1
      clear H1
      replace H := Option.bind_eq_some_iff.mp H
      obtain ⟨t143, A70, H⟩ := H
      replace H : (if t143 = true then (some false) else ((path_Is.f k (⟨#[]⟩ : ByteArray)).bind fun t144 => (if t144 = true then (some false) else ((path_All.f k (([(⟨#[97, 47, 98]⟩ : ByteArray), (⟨#[97, 47, 99]⟩ : ByteArray)] : List ByteArray))).bind fun t148 => (if t148 = true then ((path_All.f k (([(⟨#[97]⟩ : ByteArray), (⟨#[97, 47, 98]⟩ : ByteArray)] : List ByteArray))).bind fun t152 => (some (!t152))) else (some false)))))) = some r := H
      have A7 := zm A70
      clear A70
      by_cases c8 : t143 = true
      · subst c8
        have H1 : (some false) = some r := by rw [if_pos rfl] at H; exact H
        clear H
        have H := H1
        clear H1
        obtain rfl := Option.some.inj H
        go_enter Tryd.func11, Tryd.ntmps11
        go_wp2_with (first | ((with_reducible refine gate_callee (f := 7) rfl ?_); refine goesL_ (some 1) rfl rfl Tryd.func7 (by kernel_rfl) rfl #[.string (⟨#[97, 47, 98, 46, 99]⟩ : ByteArray)] rfl (by (try simp only [zl1, zl2, zl3]); first | done | rfl | (simp only [List.length_drop, List.length_take]; rfl)) ?_; (with_reducible refine (path_Is.calls k (⟨#[97, 47, 98, 46, 99]⟩ : ByteArray) true _ A1.out).mono ?_); rintro e w9 ⟨rfl, hb⟩; refine ⟨_, rfl, ?_⟩; have n0_ := zm (below_step (by repeat (first | (with_reducible first | exact HB.out | apply zb1 | apply zb2 | apply zb3) | exact HB.out)) hb); clear HB; have HB := n0_; clear n0_; (try clear hb); (try clear hb2); (try clear hk); (try clear hi)) | (go_at_call 7; (with_reducible refine (path_Is.calls k (⟨#[97, 47, 46, 46, 47, 98]⟩ : ByteArray) false _ A3.out).mono ?_); rintro e w10 ⟨rfl, hb⟩; have n0_ := zm (below_step (by repeat (first | (with_reducible first | exact HB.out | apply zb1 | apply zb2 | apply zb3) | exact HB.out)) hb); clear HB; have HB := n0_; clear n0_; (try clear hb); (try clear hb2); (try clear hk); (try clear hi); (try clear A3)) | (go_at_call 7; (with_reducible refine (path_Is.calls k (⟨#[47, 97]⟩ : ByteArray) true _ A7.out).mono ?_); rintro e w11 ⟨rfl, hb⟩; have n0_ := zm (below_step (by repeat (first | (with_reducible first | exact HB.out | apply zb1 | apply zb2 | apply zb3) | exact HB.out)) hb); clear HB; have HB := n0_; clear n0_; (try clear hb); (try clear hb2); (try clear hk); (try clear hi); (try clear A7)))
        go_ret
        exact ⟨by first | rfl | (simp [errW_none, errW_some] <;> rfl) | (simp [*, errW_none, errW_some] <;> rfl), by repeat (first | (with_reducible first | exact HB.out | apply zb1 | apply zb2 | apply zb3) | exact HB.out)⟩
      · replace c8 := Bool.eq_false_iff.mpr c8
        subst c8
        have H1 : ((path_Is.f k (⟨#[]⟩ : ByteArray)).bind fun t144 => (if t144 = true then (some false) else ((path_All.f k (([(⟨#[97, 47, 98]⟩ : ByteArray), (⟨#[97, 47, 99]⟩ : ByteArray)] : List ByteArray))).bind fun t148 => (if t148 = true then ((path_All.f k (([(⟨#[97]⟩ : ByteArray), (⟨#[97, 47, 98]⟩ : ByteArray)] : List ByteArray))).bind fun t152 => (some (!t152))) else (some false))))) = some r := by rw [if_neg (show ¬ (false = true) by decide)] at H; exact H
        clear H
        have H := H1
        clear H1
        replace H := Option.bind_eq_some_iff.mp H
        obtain ⟨t144, A120, H⟩ := H
        replace H : (if t144 = true then (some false) else ((path_All.f k (([(⟨#[97, 47, 98]⟩ : ByteArray), (⟨#[97, 47, 99]⟩ : ByteArray)] : List ByteArray))).bind fun t148 => (if t148 = true then ((path_All.f k (([(⟨#[97]⟩ : ByteArray), (⟨#[97, 47, 98]⟩ : ByteArray)] : List ByteArray))).bind fun t152 => (some (!t152))) else (some false)))) = some r := H
        have A12 := zm A120
        clear A120
        by_cases c13 : t144 = true
        · subst c13
          have H1 : (some false) = some r := by rw [if_pos rfl] at H; exact H
          clear H
          have H := H1
          clear H1
          obtain rfl := Option.some.inj H
          go_enter Tryd.func11, Tryd.ntmps11
          go_wp2_with (first | ((with_reducible refine gate_callee (f := 7) rfl ?_); refine goesL_ (some 1) rfl rfl Tryd.func7 (by kernel_rfl) rfl #[.string (⟨#[97, 47, 98, 46, 99]⟩ : ByteArray)] rfl (by (try simp only [zl1, zl2, zl3]); first | done | rfl | (simp only [List.length_drop, List.length_take]; rfl)) ?_; (with_reducible refine (path_Is.calls k (⟨#[97, 47, 98, 46, 99]⟩ : ByteArray) true _ A1.out).mono ?_); rintro e w14 ⟨rfl, hb⟩; refine ⟨_, rfl, ?_⟩; have n0_ := zm (below_step (by repeat (first | (with_reducible first | exact HB.out | apply zb1 | apply zb2 | apply zb3) | exact HB.out)) hb); clear HB; have HB := n0_; clear n0_; (try clear hb); (try clear hb2); (try clear hk); (try clear hi)) | (go_at_call 7; (with_reducible refine (path_Is.calls k (⟨#[97, 47, 46, 46, 47, 98]⟩ : ByteArray) false _ A3.out).mono ?_); rintro e w15 ⟨rfl, hb⟩; have n0_ := zm (below_step (by repeat (first | (with_reducible first | exact HB.out | apply zb1 | apply zb2 | apply zb3) | exact HB.out)) hb); clear HB; have HB := n0_; clear n0_; (try clear hb); (try clear hb2); (try clear hk); (try clear hi); (try clear A3)) | (go_at_call 7; (with_reducible refine (path_Is.calls k (⟨#[47, 97]⟩ : ByteArray) false _ A7.out).mono ?_); rintro e w16 ⟨rfl, hb⟩; have n0_ := zm (below_step (by repeat (first | (with_reducible first | exact HB.out | apply zb1 | apply zb2 | apply zb3) | exact HB.out)) hb); clear HB; have HB := n0_; clear n0_; (try clear hb); (try clear hb2); (try clear hk); (try clear hi); (try clear A7)) | (go_at_call 7; (with_reducible refine (path_Is.calls k (⟨#[]⟩ : ByteArray) true _ A12.out).mono ?_); rintro e w17 ⟨rfl, hb⟩; have n0_ := zm (below_step (by repeat (first | (with_reducible first | exact HB.out | apply zb1 | apply zb2 | apply zb3) | exact HB.out)) hb); clear HB; have HB := n0_; clear n0_; (try clear hb); (try clear hb2); (try clear hk); (try clear hi); (try clear A12)))
          go_ret
          exact ⟨by first | rfl | (simp [errW_none, errW_some] <;> rfl) | (simp [*, errW_none, errW_some] <;> rfl), by repeat (first | (with_reducible first | exact HB.out | apply zb1 | apply zb2 | apply zb3) | exact HB.out)⟩
        · replace c13 := Bool.eq_false_iff.mpr c13
          subst c13
          have H1 : ((path_All.f k (([(⟨#[97, 47, 98]⟩ : ByteArray), (⟨#[97, 47, 99]⟩ : ByteArray)] : List ByteArray))).bind fun t148 => (if t148 = true then ((path_All.f k (([(⟨#[97]⟩ : ByteArray), (⟨#[97, 47, 98]⟩ : ByteArray)] : List ByteArray))).bind fun t152 => (some (!t152))) else (some false))) = some r := by rw [if_neg (show ¬ (false = true) by decide)] at H; exact H
          clear H
          have H := H1
          clear H1
          obtain ⟨y145, hy145⟩ : ∃ y_ : List ByteArray, y_ = (([(⟨#[97, 47, 98]⟩ : ByteArray), (⟨#[97, 47, 99]⟩ : ByteArray)] : List ByteArray)) := ⟨_, rfl⟩
          replace H : ((path_All.f k y145).bind fun t148 => (if t148 = true then ((path_All.f k (([(⟨#[97]⟩ : ByteArray), (⟨#[97, 47, 98]⟩ : ByteArray)] : List ByteArray))).bind fun t152 => (some (!t152))) else (some false))) = some r := by first | (rw [hy145]; with_reducible exact H) | (have H2_ := (Option.bind_some _ _).symm.trans H; rw [hy145]; with_reducible exact H2_) | (have H2_ := (Option.bind_some _ _).symm.trans H; with_reducible exact H2_) | with_reducible exact H | (rw [hy145]; exact H) | exact H
          have Ny145 := zm hy145
          clear hy145
          replace H := Option.bind_eq_some_iff.mp H
          obtain ⟨t148, A180, H⟩ := H
          replace H : (if t148 = true then ((path_All.f k (([(⟨#[97]⟩ : ByteArray), (⟨#[97, 47, 98]⟩ : ByteArray)] : List ByteArray))).bind fun t152 => (some (!t152))) else (some false)) = some r := H
          have A18 := zm A180
          clear A180
          by_cases c19 : t148 = true
          · subst c19
            have H1 : ((path_All.f k (([(⟨#[97]⟩ : ByteArray), (⟨#[97, 47, 98]⟩ : ByteArray)] : List ByteArray))).bind fun t152 => (some (!t152))) = some r := by rw [if_pos rfl] at H; exact H
            clear H
            have H := H1
            clear H1
            obtain ⟨y149, hy149⟩ : ∃ y_ : List ByteArray, y_ = (([(⟨#[97]⟩ : ByteArray), (⟨#[97, 47, 98]⟩ : ByteArray)] : List ByteArray)) := ⟨_, rfl⟩
            replace H : ((path_All.f k y149).bind fun t152 => (some (!t152))) = some r := by first | (rw [hy149]; with_reducible exact H) | (have H2_ := (Option.bind_some _ _).symm.trans H; rw [hy149]; with_reducible exact H2_) | (have H2_ := (Option.bind_some _ _).symm.trans H; with_reducible exact H2_) | with_reducible exact H | (rw [hy149]; exact H) | exact H
            have Ny149 := zm hy149
            clear hy149
            replace H := Option.bind_eq_some_iff.mp H
            obtain ⟨t152, A200, H⟩ := H
            replace H : (some (!t152)) = some r := H
            have A20 := zm A200
            clear A200
            obtain rfl := Option.some.inj H
            go_enter Tryd.func11, Tryd.ntmps11
            go_wp2_with (first | ((with_reducible refine gate_callee (f := 7) rfl ?_); refine goesL_ (some 1) rfl rfl Tryd.func7 (by kernel_rfl) rfl #[.string (⟨#[97, 47, 98, 46, 99]⟩ : ByteArray)] rfl (by (try simp only [zl1, zl2, zl3]); first | done | rfl | (simp only [List.length_drop, List.length_take]; rfl)) ?_; (with_reducible refine (path_Is.calls k (⟨#[97, 47, 98, 46, 99]⟩ : ByteArray) true _ A1.out).mono ?_); rintro e w21 ⟨rfl, hb⟩; refine ⟨_, rfl, ?_⟩; have n0_ := zm (below_step (by repeat (first | (with_reducible first | exact HB.out | apply zb1 | apply zb2 | apply zb3) | exact HB.out)) hb); clear HB; have HB := n0_; clear n0_; (try clear hb); (try clear hb2); (try clear hk); (try clear hi)) | (go_at_call 7; (with_reducible refine (path_Is.calls k (⟨#[97, 47, 46, 46, 47, 98]⟩ : ByteArray) false _ A3.out).mono ?_); rintro e w22 ⟨rfl, hb⟩; have n0_ := zm (below_step (by repeat (first | (with_reducible first | exact HB.out | apply zb1 | apply zb2 | apply zb3) | exact HB.out)) hb); clear HB; have HB := n0_; clear n0_; (try clear hb); (try clear hb2); (try clear hk); (try clear hi); (try clear A3)) | (go_at_call 7; (with_reducible refine (path_Is.calls k (⟨#[47, 97]⟩ : ByteArray) false _ A7.out).mono ?_); rintro e w23 ⟨rfl, hb⟩; have n0_ := zm (below_step (by repeat (first | (with_reducible first | exact HB.out | apply zb1 | apply zb2 | apply zb3) | exact HB.out)) hb); clear HB; have HB := n0_; clear n0_; (try clear hb); (try clear hb2); (try clear hk); (try clear hi); (try clear A7)) | (go_at_call 7; (with_reducible refine (path_Is.calls k (⟨#[]⟩ : ByteArray) false _ A12.out).mono ?_); rintro e w24 ⟨rfl, hb⟩; have n0_ := zm (below_step (by repeat (first | (with_reducible first | exact HB.out | apply zb1 | apply zb2 | apply zb3) | exact HB.out)) hb); clear HB; have HB := n0_; clear n0_; (try clear hb); (try clear hb2); (try clear hk); (try clear hi); (try clear A12)) | ((with_reducible refine gate_dst (N := 15) rfl ?_); (try (refine gate_guard (by rfl) ?_; dsimp only)); refine Kd.R_lit Kd.string _ 9 ?hg (N := 15) ?hd (xs := ([(⟨#[97, 47, 98]⟩ : ByteArray), (⟨#[97, 47, 99]⟩ : ByteArray)] : List ByteArray)) (inner := [.string (⟨#[97, 47, 98]⟩ : ByteArray), .string (⟨#[97, 47, 99]⟩ : ByteArray)]) (ok := fun _ => True) (okp := fun _ => True) ?hr ?hp (fun _ hk => hk) trivial (Below.refl _ _) (Nat.le_refl _) (by simp) ?_; (case hd => rfl); (case hg => rfl); (case hr => first | (go_simp; done) | (go_simp; rfl)); (case hp => exact (Reps.one (show Kd.M Kd.string _ _ _ (⟨#[97, 47, 98]⟩ : ByteArray) [.string (⟨#[97, 47, 98]⟩ : ByteArray)] from rfl) (Reps.one (show Kd.M Kd.string _ _ _ (⟨#[97, 47, 99]⟩ : ByteArray) [.string (⟨#[97, 47, 99]⟩ : ByteArray)] from rfl) (Reps.none _ _)))); intro v146 w25 ho26 hb hg_ hnew_; clear hg_ hnew_; (first | rw [← Ny145.out] at ho26 | (simp only [Int.reduceToNat] at ho26; rw [← Ny145.out] at ho26)); have n0_ := zm (Kd.R_lower ho26 (below_size (by repeat (first | (with_reducible first | exact HB.out | apply zb1 | apply zb2 | apply zb3) | exact HB.out)))); have n1_ := zm (below_step (by repeat (first | (with_reducible first | exact HB.out | apply zb1 | apply zb2 | apply zb3) | exact HB.out)) hb); clear HB; have HO147 := n0_; have HB := n1_; clear n0_ n1_; clear hb ho26; obtain ⟨Ao27, co27, eo27⟩ := Kd.R_slice HO147.out; subst eo27) | (go_at_call 9; (with_reducible refine (path_All.calls k _ _ y145 true _ ?side1 ?side2 A18.out).mono ?_); (case side1 => repeat (first | exact (Kd.R_reads' HO147.out).2.2 | (with_reducible refine zc1 ?_ _) | (with_reducible refine zc2 ?_ _) | (with_reducible refine zc3 ?_))); (case side2 => exact (Kd.R_reads' HO147.out).2.1); rintro e w28 ⟨rfl, hb⟩; have n0_ := zm (Kd.R_below (by (with_reducible repeat (first | apply zr1 | apply zr2 | apply zr3)); exact HO147.out) hb); have n1_ := zm (below_step (by repeat (first | (with_reducible first | exact HB.out | apply zb1 | apply zb2 | apply zb3) | exact HB.out)) hb); clear HO147; clear HB; have HO147 := n0_; have HB := n1_; clear n0_ n1_; (try clear hb); (try clear hb2); (try clear hk); (try clear hi); (try clear A18)) | ((with_reducible refine gate_dst (N := 19) rfl ?_); (try (refine gate_guard (by rfl) ?_; dsimp only)); refine Kd.R_lit Kd.string _ 9 ?hg (N := 19) ?hd (xs := ([(⟨#[97]⟩ : ByteArray), (⟨#[97, 47, 98]⟩ : ByteArray)] : List ByteArray)) (inner := [.string (⟨#[97]⟩ : ByteArray), .string (⟨#[97, 47, 98]⟩ : ByteArray)]) (ok := fun _ => True) (okp := fun _ => True) ?hr ?hp (fun _ hk => hk) trivial (Below.refl _ _) (Nat.le_refl _) (by simp) ?_; (case hd => rfl); (case hg => rfl); (case hr => first | (go_simp; done) | (go_simp; rfl)); (case hp => exact (Reps.one (show Kd.M Kd.string _ _ _ (⟨#[97]⟩ : ByteArray) [.string (⟨#[97]⟩ : ByteArray)] from rfl) (Reps.one (show Kd.M Kd.string _ _ _ (⟨#[97, 47, 98]⟩ : ByteArray) [.string (⟨#[97, 47, 98]⟩ : ByteArray)] from rfl) (Reps.none _ _)))); intro v150 w29 ho30 hb hg_ hnew_; clear hg_ hnew_; (first | rw [← Ny149.out] at ho30 | (simp only [Int.reduceToNat] at ho30; rw [← Ny149.out] at ho30)); have n0_ := zm (Kd.R_elder' (by (with_reducible repeat (first | apply zr1 | apply zr2 | apply zr3)); exact HO147.out) (Kd.R_base ho30) hb); have n1_ := zm (Kd.R_lower (Kd.R_new' ho30 (Kd.R_lt (by (with_reducible repeat (first | apply zr1 | apply zr2 | apply zr3)); exact HO147.out))) (below_size (by repeat (first | (with_reducible first | exact HB.out | apply zb1 | apply zb2 | apply zb3) | exact HB.out)))); have n2_ := zm (below_step (by repeat (first | (with_reducible first | exact HB.out | apply zb1 | apply zb2 | apply zb3) | exact HB.out)) hb); clear HO147; clear HB; have HO147 := n0_; have HO151 := n1_; have HB := n2_; clear n0_ n1_ n2_; clear hb ho30; obtain ⟨Ao31, co31, eo31⟩ := Kd.R_slice HO151.out; subst eo31) | (go_at_call 9; (with_reducible refine (path_All.calls k _ _ y149 t152 _ ?side1 ?side2 A20.out).mono ?_); (case side1 => repeat (first | exact (Kd.R_reads' HO151.out).2.2 | (with_reducible refine zc1 ?_ _) | (with_reducible refine zc2 ?_ _) | (with_reducible refine zc3 ?_))); (case side2 => exact (Kd.R_reads' HO151.out).2.1); rintro e w32 ⟨rfl, hb⟩; have n0_ := zm (Kd.R_below (by (with_reducible repeat (first | apply zr1 | apply zr2 | apply zr3)); exact HO147.out) hb); have n1_ := zm (Kd.R_below (by (with_reducible repeat (first | apply zr1 | apply zr2 | apply zr3)); exact HO151.out) hb); have n2_ := zm (below_step (by repeat (first | (with_reducible first | exact HB.out | apply zb1 | apply zb2 | apply zb3) | exact HB.out)) hb); clear HO147; clear HO151; clear HB; have HO147 := n0_; have HO151 := n1_; have HB := n2_; clear n0_ n1_ n2_; (try clear hb); (try clear hb2); (try clear hk); (try clear hi); (try clear A20)))
            go_ret
            exact ⟨by first | rfl | (simp [errW_none, errW_some] <;> rfl) | (simp [*, errW_none, errW_some] <;> rfl), by repeat (first | (with_reducible first | exact HB.out | apply zb1 | apply zb2 | apply zb3) | exact HB.out)⟩
          · replace c19 := Bool.eq_false_iff.mpr c19
            subst c19
            have H1 : (some false) = some r := by rw [if_neg (show ¬ (false = true) by decide)] at H; exact H
            clear H
            have H := H1
            clear H1
            obtain rfl := Option.some.inj H
            go_enter Tryd.func11, Tryd.ntmps11
            go_wp2_with (first | ((with_reducible refine gate_callee (f := 7) rfl ?_); refine goesL_ (some 1) rfl rfl Tryd.func7 (by kernel_rfl) rfl #[.string (⟨#[97, 47, 98, 46, 99]⟩ : ByteArray)] rfl (by (try simp only [zl1, zl2, zl3]); first | done | rfl | (simp only [List.length_drop, List.length_take]; rfl)) ?_; (with_reducible refine (path_Is.calls k (⟨#[97, 47, 98, 46, 99]⟩ : ByteArray) true _ A1.out).mono ?_); rintro e w33 ⟨rfl, hb⟩; refine ⟨_, rfl, ?_⟩; have n0_ := zm (below_step (by repeat (first | (with_reducible first | exact HB.out | apply zb1 | apply zb2 | apply zb3) | exact HB.out)) hb); clear HB; have HB := n0_; clear n0_; (try clear hb); (try clear hb2); (try clear hk); (try clear hi)) | (go_at_call 7; (with_reducible refine (path_Is.calls k (⟨#[97, 47, 46, 46, 47, 98]⟩ : ByteArray) false _ A3.out).mono ?_); rintro e w34 ⟨rfl, hb⟩; have n0_ := zm (below_step (by repeat (first | (with_reducible first | exact HB.out | apply zb1 | apply zb2 | apply zb3) | exact HB.out)) hb); clear HB; have HB := n0_; clear n0_; (try clear hb); (try clear hb2); (try clear hk); (try clear hi); (try clear A3)) | (go_at_call 7; (with_reducible refine (path_Is.calls k (⟨#[47, 97]⟩ : ByteArray) false _ A7.out).mono ?_); rintro e w35 ⟨rfl, hb⟩; have n0_ := zm (below_step (by repeat (first | (with_reducible first | exact HB.out | apply zb1 | apply zb2 | apply zb3) | exact HB.out)) hb); clear HB; have HB := n0_; clear n0_; (try clear hb); (try clear hb2); (try clear hk); (try clear hi); (try clear A7)) | (go_at_call 7; (with_reducible refine (path_Is.calls k (⟨#[]⟩ : ByteArray) false _ A12.out).mono ?_); rintro e w36 ⟨rfl, hb⟩; have n0_ := zm (below_step (by repeat (first | (with_reducible first | exact HB.out | apply zb1 | apply zb2 | apply zb3) | exact HB.out)) hb); clear HB; have HB := n0_; clear n0_; (try clear hb); (try clear hb2); (try clear hk); (try clear hi); (try clear A12)) | ((with_reducible refine gate_dst (N := 15) rfl ?_); (try (refine gate_guard (by rfl) ?_; dsimp only)); refine Kd.R_lit Kd.string _ 9 ?hg (N := 15) ?hd (xs := ([(⟨#[97, 47, 98]⟩ : ByteArray), (⟨#[97, 47, 99]⟩ : ByteArray)] : List ByteArray)) (inner := [.string (⟨#[97, 47, 98]⟩ : ByteArray), .string (⟨#[97, 47, 99]⟩ : ByteArray)]) (ok := fun _ => True) (okp := fun _ => True) ?hr ?hp (fun _ hk => hk) trivial (Below.refl _ _) (Nat.le_refl _) (by simp) ?_; (case hd => rfl); (case hg => rfl); (case hr => first | (go_simp; done) | (go_simp; rfl)); (case hp => exact (Reps.one (show Kd.M Kd.string _ _ _ (⟨#[97, 47, 98]⟩ : ByteArray) [.string (⟨#[97, 47, 98]⟩ : ByteArray)] from rfl) (Reps.one (show Kd.M Kd.string _ _ _ (⟨#[97, 47, 99]⟩ : ByteArray) [.string (⟨#[97, 47, 99]⟩ : ByteArray)] from rfl) (Reps.none _ _)))); intro v146 w37 ho38 hb hg_ hnew_; clear hg_ hnew_; (first | rw [← Ny145.out] at ho38 | (simp only [Int.reduceToNat] at ho38; rw [← Ny145.out] at ho38)); have n0_ := zm (Kd.R_lower ho38 (below_size (by repeat (first | (with_reducible first | exact HB.out | apply zb1 | apply zb2 | apply zb3) | exact HB.out)))); have n1_ := zm (below_step (by repeat (first | (with_reducible first | exact HB.out | apply zb1 | apply zb2 | apply zb3) | exact HB.out)) hb); clear HB; have HO147 := n0_; have HB := n1_; clear n0_ n1_; clear hb ho38; obtain ⟨Ao39, co39, eo39⟩ := Kd.R_slice HO147.out; subst eo39) | (go_at_call 9; (with_reducible refine (path_All.calls k _ _ y145 false _ ?side1 ?side2 A18.out).mono ?_); (case side1 => repeat (first | exact (Kd.R_reads' HO147.out).2.2 | (with_reducible refine zc1 ?_ _) | (with_reducible refine zc2 ?_ _) | (with_reducible refine zc3 ?_))); (case side2 => exact (Kd.R_reads' HO147.out).2.1); rintro e w40 ⟨rfl, hb⟩; have n0_ := zm (Kd.R_below (by (with_reducible repeat (first | apply zr1 | apply zr2 | apply zr3)); exact HO147.out) hb); have n1_ := zm (below_step (by repeat (first | (with_reducible first | exact HB.out | apply zb1 | apply zb2 | apply zb3) | exact HB.out)) hb); clear HO147; clear HB; have HO147 := n0_; have HB := n1_; clear n0_ n1_; (try clear hb); (try clear hb2); (try clear hk); (try clear hi); (try clear A18)))
            go_ret
            exact ⟨by first | rfl | (simp [errW_none, errW_some] <;> rfl) | (simp [*, errW_none, errW_some] <;> rfl), by repeat (first | (with_reducible first | exact HB.out | apply zb1 | apply zb2 | apply zb3) | exact HB.out)⟩
  · replace c2 := Bool.eq_false_iff.mpr c2
    subst c2
    have H1 : (some false) = some r := by rw [if_neg (show ¬ (false = true) by decide)] at H; exact H
    clear H
    have H := H1
    clear H1
    obtain rfl := Option.some.inj H
    go_enter Tryd.func11, Tryd.ntmps11
    go_wp2_with (first | ((with_reducible refine gate_callee (f := 7) rfl ?_); refine goesL_ (some 1) rfl rfl Tryd.func7 (by kernel_rfl) rfl #[.string (⟨#[97, 47, 98, 46, 99]⟩ : ByteArray)] rfl (by (try simp only [zl1, zl2, zl3]); first | done | rfl | (simp only [List.length_drop, List.length_take]; rfl)) ?_; (with_reducible refine (path_Is.calls k (⟨#[97, 47, 98, 46, 99]⟩ : ByteArray) false _ A1.out).mono ?_); rintro e w41 ⟨rfl, hb⟩; refine ⟨_, rfl, ?_⟩; have n0_ := zm (below_step (by repeat (first | (with_reducible first | exact HB.out | apply zb1 | apply zb2 | apply zb3) | exact HB.out)) hb); clear HB; have HB := n0_; clear n0_; (try clear hb); (try clear hb2); (try clear hk); (try clear hi)))
    go_ret
    exact ⟨by first | rfl | (simp [errW_none, errW_some] <;> rfl) | (simp [*, errW_none, errW_some] <;> rfl), by repeat (first | (with_reducible first | exact HB.out | apply zb1 | apply zb2 | apply zb3) | exact HB.out)⟩

end Go.Proofs.YtenchfkljmodkaaDoor.A
