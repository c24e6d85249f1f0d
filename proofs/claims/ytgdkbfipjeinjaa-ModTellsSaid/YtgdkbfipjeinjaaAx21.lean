-- a text of this claim
import Derived.Test.YtgdkbfipjeinjaaAx15
import Derived.Test.YtgdkbfipjeinjaaAx17
import Derived.Test.YtgdkbfipjeinjaaAx18
import Derived.Test.YtgdkbfipjeinjaaAx7
import Derived.Test.YtgdkbfipjeinjaaAx9
import Derived.Test.YtgdkbfipjeinjaaAx0
namespace Go.Proofs.Ytgdkbfipjeinjaa.A
open Go.RowKit Go.Proofs.YtgdkbfipjeinjaaW.PrintWords Go.Proofs.YtgdkbfipjeinjaaW.PrintLast Go.Proofs.YtgdkbfipjeinjaaW.PrintMore
attribute [local go_sem] max2_int min2_int max_two min_two max_three min_three max_four min_four   -- for this text's walks alone
set_option linter.unusedVariables false
set_option linter.unusedSimpArgs false

/-! ### apostillelaw8_ModTells: function 5 -/
def apostillelaw8_ModTells.f (k : Nat) (l0 : List Int) (l1 : List Int) (l2 : List Int) : Option (Bool) := (law8_such3.f k 130 l0 l1 l2).bind fun t648 => (if t648 = true then ((mod_Add.f k l0 l1 l2).bind fun bt649 => ((mod_Sub.f k l0 l1 l2).bind fun bt653 => ((mod_Mul.f k l0 l1 l2).bind fun bt657 => ((apostilleref8_Add.f k l0 l1 l2).bind fun bt661 => ((apostilleref8_Sub.f k l0 l1 l2).bind fun bt665 => ((apostilleref8_Mul.f k l0 l1 l2).bind fun bt669 => ((apostillelaw8_same.f k bt649.1 bt661.1).bind fun t673 => (if t673 = true then ((apostillelaw8_same.f k bt653.1 bt665.1).bind fun t674 => (if t674 = true then ((apostillelaw8_same.f k bt657.1 bt669.1).bind fun t675 => (if t675 = true then (if (bt649.2 == bt661.2) = true then (if (bt653.2 == bt665.2) = true then (if (bt657.2 == bt669.2) = true then ((apostillelaw8_known.f k).bind fun t676 => (some t676)) else (some false)) else (some false)) else (some false)) else (some false))) else (some false))) else (some false))))))))) else (some true))
set_option maxHeartbeats 8000000 in
set_option maxRecDepth 100000 in
theorem apostillelaw8_ModTells.calls (k : Nat) (A0 : Option Addr) (c0 : Nat) (l0 : List Int) (A1 : Option Addr) (c1 : Nat) (l1 : List Int) (A2 : Option Addr) (c2 : Nat) (l2 : List Int) (r : Bool) (w : World) (hr0 : Kd.C (Kd.int .u32) w A0 l0.length l0) (hc0 : l0.length ≤ c0) (hr1 : Kd.C (Kd.int .u32) w A1 l1.length l1) (hc1 : l1.length ≤ c1) (hr2 : Kd.C (Kd.int .u32) w A2 l2.length l2) (hc2 : l2.length ≤ c2) (hrT : r = true) (h : apostillelaw8_ModTells.f k l0 l1 l2 = some r) :
    Calls Try.prog 5 #[.slice A0 l0.length c0, .slice A1 l1.length c1, .slice A2 l2.length c2] w fun e w' => e = .returned (.bool r) ∧ Below w.heap.size w w' := by
  have HR0 := zm hr0
  have HC0 := zm hc0
  clear hr0 hc0
  have HR1 := zm hr1
  have HC1 := zm hc1
  clear hr1 hc1
  have HR2 := zm hr2
  have HC2 := zm hc2
  clear hr2 hc2
  have HB := zm (Below.refl w.heap.size w)
  have H : ((law8_such3.f k 130 l0 l1 l2).bind fun t648 => (if t648 = true then ((mod_Add.f k l0 l1 l2).bind fun bt649 => ((mod_Sub.f k l0 l1 l2).bind fun bt653 => ((mod_Mul.f k l0 l1 l2).bind fun bt657 => ((apostilleref8_Add.f k l0 l1 l2).bind fun bt661 => ((apostilleref8_Sub.f k l0 l1 l2).bind fun bt665 => ((apostilleref8_Mul.f k l0 l1 l2).bind fun bt669 => ((apostillelaw8_same.f k bt649.1 bt661.1).bind fun t673 => (if t673 = true then ((apostillelaw8_same.f k bt653.1 bt665.1).bind fun t674 => (if t674 = true then ((apostillelaw8_same.f k bt657.1 bt669.1).bind fun t675 => (if t675 = true then (if (bt649.2 == bt661.2) = true then (if (bt653.2 == bt665.2) = true then (if (bt657.2 == bt669.2) = true then ((apostillelaw8_known.f k).bind fun t676 => (some t676)) else (some false)) else (some false)) else (some false)) else (some false))) else (some false))) else (some false))))))))) else (some true))) = some r := h
  clear h
  replace H := Option.bind_eq_some_iff.mp H
  obtain ⟨t648, A40, H⟩ := H
  replace H : (if t648 = true then ((mod_Add.f k l0 l1 l2).bind fun bt649 => ((mod_Sub.f k l0 l1 l2).bind fun bt653 => ((mod_Mul.f k l0 l1 l2).bind fun bt657 => ((apostilleref8_Add.f k l0 l1 l2).bind fun bt661 => ((apostilleref8_Sub.f k l0 l1 l2).bind fun bt665 => ((apostilleref8_Mul.f k l0 l1 l2).bind fun bt669 => ((apostillelaw8_same.f k bt649.1 bt661.1).bind fun t673 => (if t673 = true then ((apostillelaw8_same.f k bt653.1 bt665.1).bind fun t674 => (if t674 = true then ((apostillelaw8_same.f k bt657.1 bt669.1).bind fun t675 => (if t675 = true then (if (bt649.2 == bt661.2) = true then (if (bt653.2 == bt665.2) = true then (if (bt657.2 == bt669.2) = true then ((apostillelaw8_known.f k).bind fun t676 => (some t676)) else (some false)) else (some false)) else (some false)) else (some false))) else (some false))) else (some false))))))))) else (some true)) = some r := H
  have A4 := zm A40
  clear A40
  by_cases c5 : t648 = true
  · subst c5
    have H1 : ((mod_Add.f k l0 l1 l2).bind fun bt649 => ((mod_Sub.f k l0 l1 l2).bind fun bt653 => ((mod_Mul.f k l0 l1 l2).bind fun bt657 => ((apostilleref8_Add.f k l0 l1 l2).bind fun bt661 => ((apostilleref8_Sub.f k l0 l1 l2).bind fun bt665 => ((apostilleref8_Mul.f k l0 l1 l2).bind fun bt669 => ((apostillelaw8_same.f k bt649.1 bt661.1).bind fun t673 => (if t673 = true then ((apostillelaw8_same.f k bt653.1 bt665.1).bind fun t674 => (if t674 = true then ((apostillelaw8_same.f k bt657.1 bt669.1).bind fun t675 => (if t675 = true then (if (bt649.2 == bt661.2) = true then (if (bt653.2 == bt665.2) = true then (if (bt657.2 == bt669.2) = true then ((apostillelaw8_known.f k).bind fun t676 => (some t676)) else (some false)) else (some false)) else (some false)) else (some false))) else (some false))) else (some false))))))))) = some r := by rw [if_pos rfl] at H; exact H
    clear H
    have H := H1
    clear H1
    replace H := Option.bind_eq_some_iff.mp H
    obtain ⟨⟨t649, t652⟩, A60, H⟩ := H
    replace H : ((mod_Sub.f k l0 l1 l2).bind fun bt653 => ((mod_Mul.f k l0 l1 l2).bind fun bt657 => ((apostilleref8_Add.f k l0 l1 l2).bind fun bt661 => ((apostilleref8_Sub.f k l0 l1 l2).bind fun bt665 => ((apostilleref8_Mul.f k l0 l1 l2).bind fun bt669 => ((apostillelaw8_same.f k t649 bt661.1).bind fun t673 => (if t673 = true then ((apostillelaw8_same.f k bt653.1 bt665.1).bind fun t674 => (if t674 = true then ((apostillelaw8_same.f k bt657.1 bt669.1).bind fun t675 => (if t675 = true then (if (t652 == bt661.2) = true then (if (bt653.2 == bt665.2) = true then (if (bt657.2 == bt669.2) = true then ((apostillelaw8_known.f k).bind fun t676 => (some t676)) else (some false)) else (some false)) else (some false)) else (some false))) else (some false))) else (some false)))))))) = some r := H
    have A6 := zm A60
    clear A60
    replace H := Option.bind_eq_some_iff.mp H
    obtain ⟨⟨t653, t656⟩, A70, H⟩ := H
    replace H : ((mod_Mul.f k l0 l1 l2).bind fun bt657 => ((apostilleref8_Add.f k l0 l1 l2).bind fun bt661 => ((apostilleref8_Sub.f k l0 l1 l2).bind fun bt665 => ((apostilleref8_Mul.f k l0 l1 l2).bind fun bt669 => ((apostillelaw8_same.f k t649 bt661.1).bind fun t673 => (if t673 = true then ((apostillelaw8_same.f k t653 bt665.1).bind fun t674 => (if t674 = true then ((apostillelaw8_same.f k bt657.1 bt669.1).bind fun t675 => (if t675 = true then (if (t652 == bt661.2) = true then (if (t656 == bt665.2) = true then (if (bt657.2 == bt669.2) = true then ((apostillelaw8_known.f k).bind fun t676 => (some t676)) else (some false)) else (some false)) else (some false)) else (some false))) else (some false))) else (some false))))))) = some r := H
    have A7 := zm A70
    clear A70
    replace H := Option.bind_eq_some_iff.mp H
    obtain ⟨⟨t657, t660⟩, A80, H⟩ := H
    replace H : ((apostilleref8_Add.f k l0 l1 l2).bind fun bt661 => ((apostilleref8_Sub.f k l0 l1 l2).bind fun bt665 => ((apostilleref8_Mul.f k l0 l1 l2).bind fun bt669 => ((apostillelaw8_same.f k t649 bt661.1).bind fun t673 => (if t673 = true then ((apostillelaw8_same.f k t653 bt665.1).bind fun t674 => (if t674 = true then ((apostillelaw8_same.f k t657 bt669.1).bind fun t675 => (if t675 = true then (if (t652 == bt661.2) = true then (if (t656 == bt665.2) = true then (if (t660 == bt669.2) = true then ((apostillelaw8_known.f k).bind fun t676 => (some t676)) else (some false)) else (some false)) else (some false)) else (some false))) else (some false))) else (some false)))))) = some r := H
    have A8 := zm A80
    clear A80
    replace H := Option.bind_eq_some_iff.mp H
    obtain ⟨⟨t661, t664⟩, A90, H⟩ := H
    replace H : ((apostilleref8_Sub.f k l0 l1 l2).bind fun bt665 => ((apostilleref8_Mul.f k l0 l1 l2).bind fun bt669 => ((apostillelaw8_same.f k t649 t661).bind fun t673 => (if t673 = true then ((apostillelaw8_same.f k t653 bt665.1).bind fun t674 => (if t674 = true then ((apostillelaw8_same.f k t657 bt669.1).bind fun t675 => (if t675 = true then (if (t652 == t664) = true then (if (t656 == bt665.2) = true then (if (t660 == bt669.2) = true then ((apostillelaw8_known.f k).bind fun t676 => (some t676)) else (some false)) else (some false)) else (some false)) else (some false))) else (some false))) else (some false))))) = some r := H
    have A9 := zm A90
    clear A90
    replace H := Option.bind_eq_some_iff.mp H
    obtain ⟨⟨t665, t668⟩, A100, H⟩ := H
    replace H : ((apostilleref8_Mul.f k l0 l1 l2).bind fun bt669 => ((apostillelaw8_same.f k t649 t661).bind fun t673 => (if t673 = true then ((apostillelaw8_same.f k t653 t665).bind fun t674 => (if t674 = true then ((apostillelaw8_same.f k t657 bt669.1).bind fun t675 => (if t675 = true then (if (t652 == t664) = true then (if (t656 == t668) = true then (if (t660 == bt669.2) = true then ((apostillelaw8_known.f k).bind fun t676 => (some t676)) else (some false)) else (some false)) else (some false)) else (some false))) else (some false))) else (some false)))) = some r := H
    have A10 := zm A100
    clear A100
    replace H := Option.bind_eq_some_iff.mp H
    obtain ⟨⟨t669, t672⟩, A110, H⟩ := H
    replace H : ((apostillelaw8_same.f k t649 t661).bind fun t673 => (if t673 = true then ((apostillelaw8_same.f k t653 t665).bind fun t674 => (if t674 = true then ((apostillelaw8_same.f k t657 t669).bind fun t675 => (if t675 = true then (if (t652 == t664) = true then (if (t656 == t668) = true then (if (t660 == t672) = true then ((apostillelaw8_known.f k).bind fun t676 => (some t676)) else (some false)) else (some false)) else (some false)) else (some false))) else (some false))) else (some false))) = some r := H
    have A11 := zm A110
    clear A110
    replace H := Option.bind_eq_some_iff.mp H
    obtain ⟨t673, A120, H⟩ := H
    replace H : (if t673 = true then ((apostillelaw8_same.f k t653 t665).bind fun t674 => (if t674 = true then ((apostillelaw8_same.f k t657 t669).bind fun t675 => (if t675 = true then (if (t652 == t664) = true then (if (t656 == t668) = true then (if (t660 == t672) = true then ((apostillelaw8_known.f k).bind fun t676 => (some t676)) else (some false)) else (some false)) else (some false)) else (some false))) else (some false))) else (some false)) = some r := H
    have A12 := zm A120
    clear A120
    by_cases c13 : t673 = true
    · subst c13
      have H1 : ((apostillelaw8_same.f k t653 t665).bind fun t674 => (if t674 = true then ((apostillelaw8_same.f k t657 t669).bind fun t675 => (if t675 = true then (if (t652 == t664) = true then (if (t656 == t668) = true then (if (t660 == t672) = true then ((apostillelaw8_known.f k).bind fun t676 => (some t676)) else (some false)) else (some false)) else (some false)) else (some false))) else (some false))) = some r := by rw [if_pos rfl] at H; exact H
      clear H
      have H := H1
      clear H1
      replace H := Option.bind_eq_some_iff.mp H
      obtain ⟨t674, A140, H⟩ := H
      replace H : (if t674 = true then ((apostillelaw8_same.f k t657 t669).bind fun t675 => (if t675 = true then (if (t652 == t664) = true then (if (t656 == t668) = true then (if (t660 == t672) = true then ((apostillelaw8_known.f k).bind fun t676 => (some t676)) else (some false)) else (some false)) else (some false)) else (some false))) else (some false)) = some r := H
      have A14 := zm A140
      clear A140
      by_cases c15 : t674 = true
      · subst c15
        have H1 : ((apostillelaw8_same.f k t657 t669).bind fun t675 => (if t675 = true then (if (t652 == t664) = true then (if (t656 == t668) = true then (if (t660 == t672) = true then ((apostillelaw8_known.f k).bind fun t676 => (some t676)) else (some false)) else (some false)) else (some false)) else (some false))) = some r := by rw [if_pos rfl] at H; exact H
        clear H
        have H := H1
        clear H1
        replace H := Option.bind_eq_some_iff.mp H
        obtain ⟨t675, A160, H⟩ := H
        replace H : (if t675 = true then (if (t652 == t664) = true then (if (t656 == t668) = true then (if (t660 == t672) = true then ((apostillelaw8_known.f k).bind fun t676 => (some t676)) else (some false)) else (some false)) else (some false)) else (some false)) = some r := H
        have A16 := zm A160
        clear A160
        by_cases c17 : t675 = true
        · subst c17
          have H1 : (if (t652 == t664) = true then (if (t656 == t668) = true then (if (t660 == t672) = true then ((apostillelaw8_known.f k).bind fun t676 => (some t676)) else (some false)) else (some false)) else (some false)) = some r := by rw [if_pos rfl] at H; exact H
          clear H
          have H := H1
          clear H1
          by_cases c18 : (t652 == t664) = true
          · rw [if_pos c18] at H
            have c18b0 : (t652 == t664) = true := c18
            (try (have c18b1 : decide (t652 = t664) = true := by simpa using c18))
            (try (have c18b2 : (t652 == t664) = true := by simpa using c18))
            clear c18
            by_cases c19 : (t656 == t668) = true
            · rw [if_pos c19] at H
              have c19b0 : (t656 == t668) = true := c19
              (try (have c19b1 : decide (t656 = t668) = true := by simpa using c19))
              (try (have c19b2 : (t656 == t668) = true := by simpa using c19))
              clear c19
              by_cases c20 : (t660 == t672) = true
              · rw [if_pos c20] at H
                have c20b0 : (t660 == t672) = true := c20
                (try (have c20b1 : decide (t660 = t672) = true := by simpa using c20))
                (try (have c20b2 : (t660 == t672) = true := by simpa using c20))
                clear c20
                replace H := Option.bind_eq_some_iff.mp H
                obtain ⟨t676, A210, H⟩ := H
                replace H : (some t676) = some r := H
                have A21 := zm A210
                clear A210
                obtain rfl := Option.some.inj H
                go_enter Try.func5, Try.ntmps5
                go_wp2_with (first | ((with_reducible refine gate_callee (f := 8) rfl ?_); refine goesL_ (some 23) rfl rfl Try.func8 (by kernel_rfl) rfl #[.int .i64 130, .slice (some ⟨_, 0, none⟩) 3 3] rfl (by (try simp only [zl1, zl2, zl3]); first | done | rfl | (simp only [List.length_drop, List.length_take]; rfl)) ?_; (with_reducible refine (law8_such3.calls k 130 _ _ l0 _ _ l1 _ _ l2 true _ ?side1 ?side2 ?side3 ?side4 ?side5 ?side6 A4.out).mono ?_); (case side1 => repeat (first | exact HR0.out | (with_reducible refine zc1 ?_ _) | (with_reducible refine zc2 ?_ _) | (with_reducible refine zc3 ?_))); (case side2 => exact HC0.out); (case side3 => repeat (first | exact HR1.out | (with_reducible refine zc1 ?_ _) | (with_reducible refine zc2 ?_ _) | (with_reducible refine zc3 ?_))); (case side4 => exact HC1.out); (case side5 => repeat (first | exact HR2.out | (with_reducible refine zc1 ?_ _) | (with_reducible refine zc2 ?_ _) | (with_reducible refine zc3 ?_))); (case side6 => exact HC2.out); rintro e w22 ⟨rfl, hb⟩; refine ⟨_, rfl, ?_⟩; have n0_ := zm (below_step (by repeat (first | (with_reducible first | exact HB.out | apply zb1 | apply zb2 | apply zb3) | exact HB.out)) hb); clear HB; have HB := n0_; clear n0_; (try clear hb); (try clear hb2); (try clear hk); (try clear hi)) | ((with_reducible refine gate_callee (f := 17) rfl ?_); refine goesL_ (some 29) rfl rfl Try.func17 (by kernel_rfl) rfl #[.slice A0 l0.length c0, .slice A1 l1.length c1, .slice A2 l2.length c2] rfl (by (try simp only [zl1, zl2, zl3]); first | done | rfl | (simp only [List.length_drop, List.length_take]; rfl)) ?_; (with_reducible refine (mod_Add.calls k _ _ l0 _ _ l1 _ _ l2 t649 t652 _ ?side1 ?side2 ?side3 ?side4 ?side5 ?side6 A6.out).mono ?_); (case side1 => repeat (first | exact (Kd.C_below HR0.out HB.out) | (with_reducible refine zc1 ?_ _) | (with_reducible refine zc2 ?_ _) | (with_reducible refine zc3 ?_))); (case side2 => exact HC0.out); (case side3 => repeat (first | exact (Kd.C_below HR1.out HB.out) | (with_reducible refine zc1 ?_ _) | (with_reducible refine zc2 ?_ _) | (with_reducible refine zc3 ?_))); (case side4 => exact HC1.out); (case side5 => repeat (first | exact (Kd.C_below HR2.out HB.out) | (with_reducible refine zc1 ?_ _) | (with_reducible refine zc2 ?_ _) | (with_reducible refine zc3 ?_))); (case side6 => exact HC2.out); rintro e w23 ⟨v650, rfl, ho0, hb⟩; refine ⟨_, rfl, ?_⟩; have n0_ := zm (Kd.V_lower (Kd.V_mono (ok' := fun k_ => True) ho0 (fun k_ hk_ => trivial)) (below_size (by repeat (first | (with_reducible first | exact HB.out | apply zb1 | apply zb2 | apply zb3) | exact HB.out)))); have n1_ := zm (below_step (by repeat (first | (with_reducible first | exact HB.out | apply zb1 | apply zb2 | apply zb3) | exact HB.out)) hb); clear HB; have HO651 := n0_; have HB := n1_; clear n0_ n1_; (try clear hb); (try clear hb2); (try clear hk); (try clear hi); (try clear ho0)) | ((with_reducible refine gate_callee (f := 18) rfl ?_); refine goesL_ (some 36) rfl rfl Try.func18 (by kernel_rfl) rfl #[.slice A0 l0.length c0, .slice A1 l1.length c1, .slice A2 l2.length c2] rfl (by (try simp only [zl1, zl2, zl3]); first | done | rfl | (simp only [List.length_drop, List.length_take]; rfl)) ?_; (with_reducible refine (mod_Sub.calls k _ _ l0 _ _ l1 _ _ l2 t653 t656 _ ?side1 ?side2 ?side3 ?side4 ?side5 ?side6 A7.out).mono ?_); (case side1 => repeat (first | exact (Kd.C_below HR0.out HB.out) | (with_reducible refine zc1 ?_ _) | (with_reducible refine zc2 ?_ _) | (with_reducible refine zc3 ?_))); (case side2 => exact HC0.out); (case side3 => repeat (first | exact (Kd.C_below HR1.out HB.out) | (with_reducible refine zc1 ?_ _) | (with_reducible refine zc2 ?_ _) | (with_reducible refine zc3 ?_))); (case side4 => exact HC1.out); (case side5 => repeat (first | exact (Kd.C_below HR2.out HB.out) | (with_reducible refine zc1 ?_ _) | (with_reducible refine zc2 ?_ _) | (with_reducible refine zc3 ?_))); (case side6 => exact HC2.out); rintro e w24 ⟨v654, rfl, ho0, hb⟩; refine ⟨_, rfl, ?_⟩; have n0_ := zm (Kd.V_below (by (with_reducible repeat (first | apply zv1 | apply zv2 | apply zv3)); exact HO651.out) hb); have n1_ := zm (Kd.V_lower (Kd.V_mono (ok' := fun k_ => True) ho0 (fun k_ hk_ => trivial)) (below_size (by repeat (first | (with_reducible first | exact HB.out | apply zb1 | apply zb2 | apply zb3) | exact HB.out)))); have n2_ := zm (below_step (by repeat (first | (with_reducible first | exact HB.out | apply zb1 | apply zb2 | apply zb3) | exact HB.out)) hb); clear HO651; clear HB; have HO651 := n0_; have HO655 := n1_; have HB := n2_; clear n0_ n1_ n2_; (try clear hb); (try clear hb2); (try clear hk); (try clear hi); (try clear ho0)) | ((with_reducible refine gate_callee (f := 19) rfl ?_); refine goesL_ (some 43) rfl rfl Try.func19 (by kernel_rfl) rfl #[.slice A0 l0.length c0, .slice A1 l1.length c1, .slice A2 l2.length c2] rfl (by (try simp only [zl1, zl2, zl3]); first | done | rfl | (simp only [List.length_drop, List.length_take]; rfl)) ?_; (with_reducible refine (mod_Mul.calls k _ _ l0 _ _ l1 _ _ l2 t657 t660 _ ?side1 ?side2 ?side3 ?side4 ?side5 ?side6 A8.out).mono ?_); (case side1 => repeat (first | exact (Kd.C_below HR0.out HB.out) | (with_reducible refine zc1 ?_ _) | (with_reducible refine zc2 ?_ _) | (with_reducible refine zc3 ?_))); (case side2 => exact HC0.out); (case side3 => repeat (first | exact (Kd.C_below HR1.out HB.out) | (with_reducible refine zc1 ?_ _) | (with_reducible refine zc2 ?_ _) | (with_reducible refine zc3 ?_))); (case side4 => exact HC1.out); (case side5 => repeat (first | exact (Kd.C_below HR2.out HB.out) | (with_reducible refine zc1 ?_ _) | (with_reducible refine zc2 ?_ _) | (with_reducible refine zc3 ?_))); (case side6 => exact HC2.out); rintro e w25 ⟨v658, rfl, ho0, hb⟩; refine ⟨_, rfl, ?_⟩; have n0_ := zm (Kd.V_below (by (with_reducible repeat (first | apply zv1 | apply zv2 | apply zv3)); exact HO651.out) hb); have n1_ := zm (Kd.V_below (by (with_reducible repeat (first | apply zv1 | apply zv2 | apply zv3)); exact HO655.out) hb); have n2_ := zm (Kd.V_lower (Kd.V_mono (ok' := fun k_ => True) ho0 (fun k_ hk_ => trivial)) (below_size (by repeat (first | (with_reducible first | exact HB.out | apply zb1 | apply zb2 | apply zb3) | exact HB.out)))); have n3_ := zm (below_step (by repeat (first | (with_reducible first | exact HB.out | apply zb1 | apply zb2 | apply zb3) | exact HB.out)) hb); clear HO651; clear HO655; clear HB; have HO651 := n0_; have HO655 := n1_; have HO659 := n2_; have HB := n3_; clear n0_ n1_ n2_ n3_; (try clear hb); (try clear hb2); (try clear hk); (try clear hi); (try clear ho0)) | ((with_reducible refine gate_callee (f := 20) rfl ?_); refine goesL_ (some 50) rfl rfl Try.func20 (by kernel_rfl) rfl #[.slice A0 l0.length c0, .slice A1 l1.length c1, .slice A2 l2.length c2] rfl (by (try simp only [zl1, zl2, zl3]); first | done | rfl | (simp only [List.length_drop, List.length_take]; rfl)) ?_; (with_reducible refine (apostilleref8_Add.calls k _ _ l0 _ _ l1 _ _ l2 t661 t664 _ ?side1 ?side2 ?side3 ?side4 ?side5 ?side6 A9.out).mono ?_); (case side1 => repeat (first | exact (Kd.C_below HR0.out HB.out) | (with_reducible refine zc1 ?_ _) | (with_reducible refine zc2 ?_ _) | (with_reducible refine zc3 ?_))); (case side2 => exact HC0.out); (case side3 => repeat (first | exact (Kd.C_below HR1.out HB.out) | (with_reducible refine zc1 ?_ _) | (with_reducible refine zc2 ?_ _) | (with_reducible refine zc3 ?_))); (case side4 => exact HC1.out); (case side5 => repeat (first | exact (Kd.C_below HR2.out HB.out) | (with_reducible refine zc1 ?_ _) | (with_reducible refine zc2 ?_ _) | (with_reducible refine zc3 ?_))); (case side6 => exact HC2.out); rintro e w26 ⟨v662, rfl, ho0, hb⟩; refine ⟨_, rfl, ?_⟩; have n0_ := zm (Kd.V_below (by (with_reducible repeat (first | apply zv1 | apply zv2 | apply zv3)); exact HO651.out) hb); have n1_ := zm (Kd.V_below (by (with_reducible repeat (first | apply zv1 | apply zv2 | apply zv3)); exact HO655.out) hb); have n2_ := zm (Kd.V_below (by (with_reducible repeat (first | apply zv1 | apply zv2 | apply zv3)); exact HO659.out) hb); have n3_ := zm (Kd.V_lower (Kd.V_mono (ok' := fun k_ => True) ho0 (fun k_ hk_ => trivial)) (below_size (by repeat (first | (with_reducible first | exact HB.out | apply zb1 | apply zb2 | apply zb3) | exact HB.out)))); have n4_ := zm (below_step (by repeat (first | (with_reducible first | exact HB.out | apply zb1 | apply zb2 | apply zb3) | exact HB.out)) hb); clear HO651; clear HO655; clear HO659; clear HB; have HO651 := n0_; have HO655 := n1_; have HO659 := n2_; have HO663 := n3_; have HB := n4_; clear n0_ n1_ n2_ n3_ n4_; (try clear hb); (try clear hb2); (try clear hk); (try clear hi); (try clear ho0)) | ((with_reducible refine gate_callee (f := 21) rfl ?_); refine goesL_ (some 57) rfl rfl Try.func21 (by kernel_rfl) rfl #[.slice A0 l0.length c0, .slice A1 l1.length c1, .slice A2 l2.length c2] rfl (by (try simp only [zl1, zl2, zl3]); first | done | rfl | (simp only [List.length_drop, List.length_take]; rfl)) ?_; (with_reducible refine (apostilleref8_Sub.calls k _ _ l0 _ _ l1 _ _ l2 t665 t668 _ ?side1 ?side2 ?side3 ?side4 ?side5 ?side6 A10.out).mono ?_); (case side1 => repeat (first | exact (Kd.C_below HR0.out HB.out) | (with_reducible refine zc1 ?_ _) | (with_reducible refine zc2 ?_ _) | (with_reducible refine zc3 ?_))); (case side2 => exact HC0.out); (case side3 => repeat (first | exact (Kd.C_below HR1.out HB.out) | (with_reducible refine zc1 ?_ _) | (with_reducible refine zc2 ?_ _) | (with_reducible refine zc3 ?_))); (case side4 => exact HC1.out); (case side5 => repeat (first | exact (Kd.C_below HR2.out HB.out) | (with_reducible refine zc1 ?_ _) | (with_reducible refine zc2 ?_ _) | (with_reducible refine zc3 ?_))); (case side6 => exact HC2.out); rintro e w27 ⟨v666, rfl, ho0, hb⟩; refine ⟨_, rfl, ?_⟩; have n0_ := zm (Kd.V_below (by (with_reducible repeat (first | apply zv1 | apply zv2 | apply zv3)); exact HO651.out) hb); have n1_ := zm (Kd.V_below (by (with_reducible repeat (first | apply zv1 | apply zv2 | apply zv3)); exact HO655.out) hb); have n2_ := zm (Kd.V_below (by (with_reducible repeat (first | apply zv1 | apply zv2 | apply zv3)); exact HO659.out) hb); have n3_ := zm (Kd.V_below (by (with_reducible repeat (first | apply zv1 | apply zv2 | apply zv3)); exact HO663.out) hb); have n4_ := zm (Kd.V_lower (Kd.V_mono (ok' := fun k_ => True) ho0 (fun k_ hk_ => trivial)) (below_size (by repeat (first | (with_reducible first | exact HB.out | apply zb1 | apply zb2 | apply zb3) | exact HB.out)))); have n5_ := zm (below_step (by repeat (first | (with_reducible first | exact HB.out | apply zb1 | apply zb2 | apply zb3) | exact HB.out)) hb); clear HO651; clear HO655; clear HO659; clear HO663; clear HB; have HO651 := n0_; have HO655 := n1_; have HO659 := n2_; have HO663 := n3_; have HO667 := n4_; have HB := n5_; clear n0_ n1_ n2_ n3_ n4_ n5_; (try clear hb); (try clear hb2); (try clear hk); (try clear hi); (try clear ho0)) | ((with_reducible refine gate_callee (f := 15) rfl ?_); refine goesL_ (some 64) rfl rfl Try.func15 (by kernel_rfl) rfl #[.slice A0 l0.length c0, .slice A1 l1.length c1, .slice A2 l2.length c2] rfl (by (try simp only [zl1, zl2, zl3]); first | done | rfl | (simp only [List.length_drop, List.length_take]; rfl)) ?_; (with_reducible refine (apostilleref8_Mul.calls k _ _ l0 _ _ l1 _ _ l2 t669 t672 _ ?side1 ?side2 ?side3 ?side4 ?side5 ?side6 A11.out).mono ?_); (case side1 => repeat (first | exact (Kd.C_below HR0.out HB.out) | (with_reducible refine zc1 ?_ _) | (with_reducible refine zc2 ?_ _) | (with_reducible refine zc3 ?_))); (case side2 => exact HC0.out); (case side3 => repeat (first | exact (Kd.C_below HR1.out HB.out) | (with_reducible refine zc1 ?_ _) | (with_reducible refine zc2 ?_ _) | (with_reducible refine zc3 ?_))); (case side4 => exact HC1.out); (case side5 => repeat (first | exact (Kd.C_below HR2.out HB.out) | (with_reducible refine zc1 ?_ _) | (with_reducible refine zc2 ?_ _) | (with_reducible refine zc3 ?_))); (case side6 => exact HC2.out); rintro e w28 ⟨v670, rfl, ho0, hb⟩; refine ⟨_, rfl, ?_⟩; have n0_ := zm (Kd.V_below (by (with_reducible repeat (first | apply zv1 | apply zv2 | apply zv3)); exact HO651.out) hb); have n1_ := zm (Kd.V_below (by (with_reducible repeat (first | apply zv1 | apply zv2 | apply zv3)); exact HO655.out) hb); have n2_ := zm (Kd.V_below (by (with_reducible repeat (first | apply zv1 | apply zv2 | apply zv3)); exact HO659.out) hb); have n3_ := zm (Kd.V_below (by (with_reducible repeat (first | apply zv1 | apply zv2 | apply zv3)); exact HO663.out) hb); have n4_ := zm (Kd.V_below (by (with_reducible repeat (first | apply zv1 | apply zv2 | apply zv3)); exact HO667.out) hb); have n5_ := zm (Kd.V_lower (Kd.V_mono (ok' := fun k_ => True) ho0 (fun k_ hk_ => trivial)) (below_size (by repeat (first | (with_reducible first | exact HB.out | apply zb1 | apply zb2 | apply zb3) | exact HB.out)))); have n6_ := zm (below_step (by repeat (first | (with_reducible first | exact HB.out | apply zb1 | apply zb2 | apply zb3) | exact HB.out)) hb); clear HO651; clear HO655; clear HO659; clear HO663; clear HO667; clear HB; have HO651 := n0_; have HO655 := n1_; have HO659 := n2_; have HO663 := n3_; have HO667 := n4_; have HO671 := n5_; have HB := n6_; clear n0_ n1_ n2_ n3_ n4_ n5_ n6_; (try clear hb); (try clear hb2); (try clear hk); (try clear hi); (try clear ho0); obtain ⟨Ao29, co29, eo29⟩ := Kd.V_slice HO651.out; subst eo29; obtain ⟨Ao30, co30, eo30⟩ := Kd.V_slice HO663.out; subst eo30) | ((with_reducible refine gate_callee (f := 11) rfl ?_); refine goesL_ (some 69) rfl rfl Try.func11 (by kernel_rfl) rfl #[.slice Ao29 t649.length co29, .slice Ao30 t661.length co30] rfl (by (try simp only [zl1, zl2, zl3]); first | done | rfl | (simp only [List.length_drop, List.length_take]; rfl)) ?_; (with_reducible refine (apostillelaw8_same.calls k _ _ t649 _ _ t661 true _ ?side1 ?side2 ?side3 ?side4 A12.out).mono ?_); (case side1 => repeat (first | exact (Kd.V_reads' HO651.out).2.2 | (with_reducible refine zc1 ?_ _) | (with_reducible refine zc2 ?_ _) | (with_reducible refine zc3 ?_))); (case side2 => exact (Kd.V_reads' HO651.out).2.1); (case side3 => repeat (first | exact (Kd.V_reads' HO663.out).2.2 | (with_reducible refine zc1 ?_ _) | (with_reducible refine zc2 ?_ _) | (with_reducible refine zc3 ?_))); (case side4 => exact (Kd.V_reads' HO663.out).2.1); rintro e w' ⟨rfl, ⟨nd, rfl⟩⟩; refine ⟨_, rfl, ?_⟩; obtain ⟨Ao31, co31, eo31⟩ := Kd.V_slice HO655.out; subst eo31; obtain ⟨Ao32, co32, eo32⟩ := Kd.V_slice HO667.out; subst eo32) | (go_at_call 11; (with_reducible refine (apostillelaw8_same.calls k _ _ t653 _ _ t665 true _ ?side1 ?side2 ?side3 ?side4 A14.out).mono ?_); (case side1 => repeat (first | exact (Kd.V_reads' HO655.out).2.2 | (with_reducible refine zc1 ?_ _) | (with_reducible refine zc2 ?_ _) | (with_reducible refine zc3 ?_))); (case side2 => exact (Kd.V_reads' HO655.out).2.1); (case side3 => repeat (first | exact (Kd.V_reads' HO667.out).2.2 | (with_reducible refine zc1 ?_ _) | (with_reducible refine zc2 ?_ _) | (with_reducible refine zc3 ?_))); (case side4 => exact (Kd.V_reads' HO667.out).2.1); rintro e w' ⟨rfl, ⟨nd, rfl⟩⟩; (try clear A14); obtain ⟨Ao33, co33, eo33⟩ := Kd.V_slice HO659.out; subst eo33; obtain ⟨Ao34, co34, eo34⟩ := Kd.V_slice HO671.out; subst eo34) | (go_at_call 11; (with_reducible refine (apostillelaw8_same.calls k _ _ t657 _ _ t669 true _ ?side1 ?side2 ?side3 ?side4 A16.out).mono ?_); (case side1 => repeat (first | exact (Kd.V_reads' HO659.out).2.2 | (with_reducible refine zc1 ?_ _) | (with_reducible refine zc2 ?_ _) | (with_reducible refine zc3 ?_))); (case side2 => exact (Kd.V_reads' HO659.out).2.1); (case side3 => repeat (first | exact (Kd.V_reads' HO671.out).2.2 | (with_reducible refine zc1 ?_ _) | (with_reducible refine zc2 ?_ _) | (with_reducible refine zc3 ?_))); (case side4 => exact (Kd.V_reads' HO671.out).2.1); rintro e w' ⟨rfl, ⟨nd, rfl⟩⟩; (try clear A16)) | (go_at_call 12; (with_reducible refine (apostillelaw8_known.calls k  t676 _ A21.out).mono ?_); rintro e w35 ⟨rfl, hb⟩; have n0_ := zm (Kd.V_below (by (with_reducible repeat (first | apply zv1 | apply zv2 | apply zv3)); exact HO651.out) hb); have n1_ := zm (Kd.V_below (by (with_reducible repeat (first | apply zv1 | apply zv2 | apply zv3)); exact HO655.out) hb); have n2_ := zm (Kd.V_below (by (with_reducible repeat (first | apply zv1 | apply zv2 | apply zv3)); exact HO659.out) hb); have n3_ := zm (Kd.V_below (by (with_reducible repeat (first | apply zv1 | apply zv2 | apply zv3)); exact HO663.out) hb); have n4_ := zm (Kd.V_below (by (with_reducible repeat (first | apply zv1 | apply zv2 | apply zv3)); exact HO667.out) hb); have n5_ := zm (Kd.V_below (by (with_reducible repeat (first | apply zv1 | apply zv2 | apply zv3)); exact HO671.out) hb); have n6_ := zm (below_step (by repeat (first | (with_reducible first | exact HB.out | apply zb1 | apply zb2 | apply zb3) | exact HB.out)) hb); clear HO651; clear HO655; clear HO659; clear HO663; clear HO667; clear HO671; clear HB; have HO651 := n0_; have HO655 := n1_; have HO659 := n2_; have HO663 := n3_; have HO667 := n4_; have HO671 := n5_; have HB := n6_; clear n0_ n1_ n2_ n3_ n4_ n5_ n6_; (try clear hb); (try clear hb2); (try clear hk); (try clear hi); (try clear A21)))
                go_ret
                exact ⟨by first | rfl | (simp [errW_none, errW_some] <;> rfl) | (simp [*, errW_none, errW_some] <;> rfl), by repeat (first | (with_reducible first | exact HB.out | apply zb1 | apply zb2 | apply zb3) | exact HB.out)⟩
              · rw [if_neg c20] at H
                have c20b0 : (t660 == t672) = false := by simpa using c20
                (try (have c20b1 : decide (t660 = t672) = false := by simpa using c20))
                (try (have c20b2 : (t660 == t672) = false := by simpa using c20))
                (try (have c20b3 : ¬ (t660 = t672) := by simpa using c20))
                clear c20
                exact absurd (Option.some.inj H) (by rw [hrT]; decide)
            · rw [if_neg c19] at H
              have c19b0 : (t656 == t668) = false := by simpa using c19
              (try (have c19b1 : decide (t656 = t668) = false := by simpa using c19))
              (try (have c19b2 : (t656 == t668) = false := by simpa using c19))
              (try (have c19b3 : ¬ (t656 = t668) := by simpa using c19))
              clear c19
              exact absurd (Option.some.inj H) (by rw [hrT]; decide)
          · rw [if_neg c18] at H
            have c18b0 : (t652 == t664) = false := by simpa using c18
            (try (have c18b1 : decide (t652 = t664) = false := by simpa using c18))
            (try (have c18b2 : (t652 == t664) = false := by simpa using c18))
            (try (have c18b3 : ¬ (t652 = t664) := by simpa using c18))
            clear c18
            exact absurd (Option.some.inj H) (by rw [hrT]; decide)
        · replace c17 := Bool.eq_false_iff.mpr c17
          subst c17
          have H1 : (some false) = some r := by rw [if_neg (show ¬ (false = true) by decide)] at H; exact H
          clear H
          have H := H1
          clear H1
          exact absurd (Option.some.inj H) (by rw [hrT]; decide)
      · replace c15 := Bool.eq_false_iff.mpr c15
        subst c15
        have H1 : (some false) = some r := by rw [if_neg (show ¬ (false = true) by decide)] at H; exact H
        clear H
        have H := H1
        clear H1
        exact absurd (Option.some.inj H) (by rw [hrT]; decide)
    · replace c13 := Bool.eq_false_iff.mpr c13
      subst c13
      have H1 : (some false) = some r := by rw [if_neg (show ¬ (false = true) by decide)] at H; exact H
      clear H
      have H := H1
      clear H1
      exact absurd (Option.some.inj H) (by rw [hrT]; decide)
  · replace c5 := Bool.eq_false_iff.mpr c5
    subst c5
    have H1 : (some true) = some r := by rw [if_neg (show ¬ (false = true) by decide)] at H; exact H
    clear H
    have H := H1
    clear H1
    obtain rfl := Option.some.inj H
    go_enter Try.func5, Try.ntmps5
    go_wp2_with (first | ((with_reducible refine gate_callee (f := 8) rfl ?_); refine goesL_ (some 23) rfl rfl Try.func8 (by kernel_rfl) rfl #[.int .i64 130, .slice (some ⟨_, 0, none⟩) 3 3] rfl (by (try simp only [zl1, zl2, zl3]); first | done | rfl | (simp only [List.length_drop, List.length_take]; rfl)) ?_; (with_reducible refine (law8_such3.calls k 130 _ _ l0 _ _ l1 _ _ l2 false _ ?side1 ?side2 ?side3 ?side4 ?side5 ?side6 A4.out).mono ?_); (case side1 => repeat (first | exact HR0.out | (with_reducible refine zc1 ?_ _) | (with_reducible refine zc2 ?_ _) | (with_reducible refine zc3 ?_))); (case side2 => exact HC0.out); (case side3 => repeat (first | exact HR1.out | (with_reducible refine zc1 ?_ _) | (with_reducible refine zc2 ?_ _) | (with_reducible refine zc3 ?_))); (case side4 => exact HC1.out); (case side5 => repeat (first | exact HR2.out | (with_reducible refine zc1 ?_ _) | (with_reducible refine zc2 ?_ _) | (with_reducible refine zc3 ?_))); (case side6 => exact HC2.out); rintro e w36 ⟨rfl, hb⟩; refine ⟨_, rfl, ?_⟩; have n0_ := zm (below_step (by repeat (first | (with_reducible first | exact HB.out | apply zb1 | apply zb2 | apply zb3) | exact HB.out)) hb); clear HB; have HB := n0_; clear n0_; (try clear hb); (try clear hb2); (try clear hk); (try clear hi)))
    go_ret
    exact ⟨by first | rfl | (simp [errW_none, errW_some] <;> rfl) | (simp [*, errW_none, errW_some] <;> rfl), by repeat (first | (with_reducible first | exact HB.out | apply zb1 | apply zb2 | apply zb3) | exact HB.out)⟩

/-- THE ONE PURE STATEMENT of apostillelaw8_ModTells: yours. -/
def apostillelaw8_ModTells.Pure : Prop := ∀ (l0 : List Int) (l1 : List Int) (l2 : List Int), l0.length ≤ maxLen → l0.length * 4 ≤ 140737488351232 → (∀ x ∈ l0, (Lit.int .u32 x).wf = true) → l1.length ≤ maxLen → l1.length * 4 ≤ 140737488351232 → (∀ x ∈ l1, (Lit.int .u32 x).wf = true) → l2.length ≤ maxLen → l2.length * 4 ≤ 140737488351232 → (∀ x ∈ l2, (Lit.int .u32 x).wf = true) → ∃ k, apostillelaw8_ModTells.f k l0 l1 l2 = some true
theorem apostillelaw8_ModTells.walk (P : apostillelaw8_ModTells.Pure) (a0 : Option Addr) (len0 cap0 : Nat) (z0 : List Int) (a1 : Option Addr) (len1 cap1 : Nat) (z1 : List Int) (a2 : Option Addr) (len2 cap2 : Nat) (z2 : List Int) (w : World) (w0 : (a0 = none ∧ len0 = 0 ∧ cap0 = 0 ∧ z0 = []) ∨ ∃ x, a0 = some x ∧ len0 ≤ cap0 ∧ cap0 ≤ maxLen ∧ z0.length = cap0 ∧ (∀ i, i < z0.length → w.cell? (x.add i) = some (.int .u32 (z0.getD i 0))) ∧ ∀ n ∈ z0, (Lit.int .u32 n).wf = true) (y0 : len0 * 4 ≤ 140737488351232) (w1 : (a1 = none ∧ len1 = 0 ∧ cap1 = 0 ∧ z1 = []) ∨ ∃ x, a1 = some x ∧ len1 ≤ cap1 ∧ cap1 ≤ maxLen ∧ z1.length = cap1 ∧ (∀ i, i < z1.length → w.cell? (x.add i) = some (.int .u32 (z1.getD i 0))) ∧ ∀ n ∈ z1, (Lit.int .u32 n).wf = true) (y1 : len1 * 4 ≤ 140737488351232) (w2 : (a2 = none ∧ len2 = 0 ∧ cap2 = 0 ∧ z2 = []) ∨ ∃ x, a2 = some x ∧ len2 ≤ cap2 ∧ cap2 ≤ maxLen ∧ z2.length = cap2 ∧ (∀ i, i < z2.length → w.cell? (x.add i) = some (.int .u32 (z2.getD i 0))) ∧ ∀ n ∈ z2, (Lit.int .u32 n).wf = true) (y2 : len2 * 4 ≤ 140737488351232) :
    Calls Try.prog 5 #[.slice a0 len0 cap0, .slice a1 len1 cap1, .slice a2 len2 cap2] w fun e w' => e = .returned (.bool true) ∧ Below w.heap.size w w' := by
  obtain ⟨l0, rfl, hr0, hm0, hw0, hc0⟩ := ReadsInt.ofRowC w0
  obtain ⟨l1, rfl, hr1, hm1, hw1, hc1⟩ := ReadsInt.ofRowC w1
  obtain ⟨l2, rfl, hr2, hm2, hw2, hc2⟩ := ReadsInt.ofRowC w2
  obtain ⟨k, h⟩ := P l0 l1 l2 hm0 y0 hw0 hm1 y1 hw1 hm2 y2 hw2
  refine (apostillelaw8_ModTells.calls k _ _ l0 _ _ l1 _ _ l2 true w (Kd.C_of_reads (d := (0 : Int)) (h1 := fun _ => rfl) hr0) hc0 (Kd.C_of_reads (d := (0 : Int)) (h1 := fun _ => rfl) hr1) hc1 (Kd.C_of_reads (d := (0 : Int)) (h1 := fun _ => rfl) hr2) hc2 rfl h).mono ?_
  rintro e w' ⟨rfl, hd⟩
  exact ⟨rfl, hd⟩

end Go.Proofs.Ytgdkbfipjeinjaa.A
