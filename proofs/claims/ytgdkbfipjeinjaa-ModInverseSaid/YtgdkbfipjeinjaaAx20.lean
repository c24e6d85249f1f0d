-- a text of this claim
import Derived.Test.YtgdkbfipjeinjaaAx10
import Derived.Test.YtgdkbfipjeinjaaAx15
import Derived.Test.YtgdkbfipjeinjaaAx17
import Derived.Test.YtgdkbfipjeinjaaAx18
import Derived.Test.YtgdkbfipjeinjaaAx9
import Derived.Test.YtgdkbfipjeinjaaAx0
namespace Go.Proofs.Ytgdkbfipjeinjaa.A
open Go.RowKit Go.Proofs.YtgdkbfipjeinjaaW.PrintWords Go.Proofs.YtgdkbfipjeinjaaW.PrintLast Go.Proofs.YtgdkbfipjeinjaaW.PrintMore
attribute [local go_sem] max2_int min2_int max_two min_two max_three min_three max_four min_four   -- for this text's walks alone
set_option linter.unusedVariables false
set_option linter.unusedSimpArgs false

/-! ### apostillelaw8_ModInverse: function 4 -/
def apostillelaw8_ModInverse.j0 : Nat → List Int → List Int → List Int → Bool → Bool → Option (Bool)
  | 0, _, _, _, _, _ => none
  | k + 1, x0, x1, x5, x6, x36 => if x36 = true then (some false) else (if x6 = true then ((apostilleref8_Mul.f k x0 x5 x1).bind fun bt624 => ((apostillelaw8_same.f k bt624.1 (([1] : List Int))).bind fun t631 => (if t631 = true then ((apostilleref7_Cmp.f k x5 x1).bind fun t632 => (if t632 < 0 then ((apostillelaw8_known.f k).bind fun t633 => (some t633)) else (some false))) else (some false)))) else ((apostillelaw8_known.f k).bind fun t623 => (some t623)))
def apostillelaw8_ModInverse.f (k : Nat) (l0 : List Int) (l1 : List Int) : Option (Bool) := (law8_such2.f k 40 l0 l1).bind fun t613 => (if t613 = true then ((mod_Inv.f k l0 l1).bind fun bt614 => ((apostilleref8_Inv.f k l0 l1).bind fun bt618 => ((apostillelaw8_same.f k bt614.1 bt618.1).bind fun t622 => (if t622 = true then (apostillelaw8_ModInverse.j0 k l0 l1 bt614.1 bt614.2 (bt614.2 != bt618.2)) else (apostillelaw8_ModInverse.j0 k l0 l1 bt614.1 bt614.2 true))))) else (some true))
set_option maxHeartbeats 8000000 in
set_option maxRecDepth 100000 in
theorem apostillelaw8_ModInverse.calls (k : Nat) (A0 : Option Addr) (c0 : Nat) (l0 : List Int) (A1 : Option Addr) (c1 : Nat) (l1 : List Int) (r : Bool) (w : World) (hr0 : Kd.C (Kd.int .u32) w A0 l0.length l0) (hc0 : l0.length ≤ c0) (hr1 : Kd.C (Kd.int .u32) w A1 l1.length l1) (hc1 : l1.length ≤ c1) (hrT : r = true) (h : apostillelaw8_ModInverse.f k l0 l1 = some r) :
    Calls Try.prog 4 #[.slice A0 l0.length c0, .slice A1 l1.length c1] w fun e w' => e = .returned (.bool r) ∧ Below w.heap.size w w' := by
  have HR0 := zm hr0
  have HC0 := zm hc0
  clear hr0 hc0
  have HR1 := zm hr1
  have HC1 := zm hc1
  clear hr1 hc1
  have HB := zm (Below.refl w.heap.size w)
  have H : ((law8_such2.f k 40 l0 l1).bind fun t613 => (if t613 = true then ((mod_Inv.f k l0 l1).bind fun bt614 => ((apostilleref8_Inv.f k l0 l1).bind fun bt618 => ((apostillelaw8_same.f k bt614.1 bt618.1).bind fun t622 => (if t622 = true then (apostillelaw8_ModInverse.j0 k l0 l1 bt614.1 bt614.2 (bt614.2 != bt618.2)) else (apostillelaw8_ModInverse.j0 k l0 l1 bt614.1 bt614.2 true))))) else (some true))) = some r := h
  clear h
  replace H := Option.bind_eq_some_iff.mp H
  obtain ⟨t613, A30, H⟩ := H
  replace H : (if t613 = true then ((mod_Inv.f k l0 l1).bind fun bt614 => ((apostilleref8_Inv.f k l0 l1).bind fun bt618 => ((apostillelaw8_same.f k bt614.1 bt618.1).bind fun t622 => (if t622 = true then (apostillelaw8_ModInverse.j0 k l0 l1 bt614.1 bt614.2 (bt614.2 != bt618.2)) else (apostillelaw8_ModInverse.j0 k l0 l1 bt614.1 bt614.2 true))))) else (some true)) = some r := H
  have A3 := zm A30
  clear A30
  by_cases c4 : t613 = true
  · subst c4
    have H1 : ((mod_Inv.f k l0 l1).bind fun bt614 => ((apostilleref8_Inv.f k l0 l1).bind fun bt618 => ((apostillelaw8_same.f k bt614.1 bt618.1).bind fun t622 => (if t622 = true then (apostillelaw8_ModInverse.j0 k l0 l1 bt614.1 bt614.2 (bt614.2 != bt618.2)) else (apostillelaw8_ModInverse.j0 k l0 l1 bt614.1 bt614.2 true))))) = some r := by rw [if_pos rfl] at H; exact H
    clear H
    have H := H1
    clear H1
    replace H := Option.bind_eq_some_iff.mp H
    obtain ⟨⟨t614, t617⟩, A50, H⟩ := H
    replace H : ((apostilleref8_Inv.f k l0 l1).bind fun bt618 => ((apostillelaw8_same.f k t614 bt618.1).bind fun t622 => (if t622 = true then (apostillelaw8_ModInverse.j0 k l0 l1 t614 t617 (t617 != bt618.2)) else (apostillelaw8_ModInverse.j0 k l0 l1 t614 t617 true)))) = some r := H
    have A5 := zm A50
    clear A50
    replace H := Option.bind_eq_some_iff.mp H
    obtain ⟨⟨t618, t621⟩, A60, H⟩ := H
    replace H : ((apostillelaw8_same.f k t614 t618).bind fun t622 => (if t622 = true then (apostillelaw8_ModInverse.j0 k l0 l1 t614 t617 (t617 != t621)) else (apostillelaw8_ModInverse.j0 k l0 l1 t614 t617 true))) = some r := H
    have A6 := zm A60
    clear A60
    have HC7 := zm H
    clear H
    go_enter Try.func4, Try.ntmps4
    go_upto_region 5 with (first | ((with_reducible refine gate_callee (f := 8) rfl ?_); refine goesL_ (some 14) rfl rfl Try.func8 (by kernel_rfl) rfl #[.int .i64 40, .slice (some ⟨_, 0, none⟩) 2 2] rfl (by (try simp only [zl1, zl2, zl3]); first | done | rfl | (simp only [List.length_drop, List.length_take]; rfl)) ?_; (with_reducible refine (law8_such2.calls k 40 _ _ l0 _ _ l1 true _ ?side1 ?side2 ?side3 ?side4 A3.out).mono ?_); (case side1 => repeat (first | exact HR0.out | (with_reducible refine zc1 ?_ _) | (with_reducible refine zc2 ?_ _) | (with_reducible refine zc3 ?_))); (case side2 => exact HC0.out); (case side3 => repeat (first | exact HR1.out | (with_reducible refine zc1 ?_ _) | (with_reducible refine zc2 ?_ _) | (with_reducible refine zc3 ?_))); (case side4 => exact HC1.out); rintro e w8 ⟨rfl, hb⟩; refine ⟨_, rfl, ?_⟩; have n0_ := zm (below_step (by repeat (first | (with_reducible first | exact HB.out | apply zb1 | apply zb2 | apply zb3) | exact HB.out)) hb); clear HB; have HB := n0_; clear n0_; (try clear hb); (try clear hb2); (try clear hk); (try clear hi)) | ((with_reducible refine gate_callee (f := 13) rfl ?_); refine goesL_ (some 19) rfl rfl Try.func13 (by kernel_rfl) rfl #[.slice A0 l0.length c0, .slice A1 l1.length c1] rfl (by (try simp only [zl1, zl2, zl3]); first | done | rfl | (simp only [List.length_drop, List.length_take]; rfl)) ?_; (with_reducible refine (mod_Inv.calls k _ _ l0 (fun k_ => k_ < w.heap.size) _ _ l1 t614 t617 _ ?side1 ?side2 ?side3 A5.out).mono ?_); (case side1 => repeat (first | exact (Kd.C_below HR0.out HB.out) | (with_reducible refine zc1 ?_ _) | (with_reducible refine zc2 ?_ _) | (with_reducible refine zc3 ?_))); (case side2 => exact HC0.out); (case side3 => exact Kd.V_mk HC1.out (Kd.F_below (Kd.C_F (Kd.heap_int .u32) HR1.out) (by repeat (first | (with_reducible first | exact HB.out | apply zb1 | apply zb2 | apply zb3) | exact HB.out)))); rintro e w9 ⟨v615, rfl, ho0, hb⟩; refine ⟨_, rfl, ?_⟩; have n0_ := zm (Kd.V_lower (Kd.V_mono (ok' := fun k_ => True) ho0 (fun k_ hk_ => trivial)) (below_size (by repeat (first | (with_reducible first | exact HB.out | apply zb1 | apply zb2 | apply zb3) | exact HB.out)))); have n1_ := zm (below_step (by repeat (first | (with_reducible first | exact HB.out | apply zb1 | apply zb2 | apply zb3) | exact HB.out)) hb); clear HB; have HO616 := n0_; have HB := n1_; clear n0_ n1_; (try clear hb); (try clear hb2); (try clear hk); (try clear hi); (try clear ho0)) | ((with_reducible refine gate_callee (f := 14) rfl ?_); refine goesL_ (some 25) rfl rfl Try.func14 (by kernel_rfl) rfl #[.slice A0 l0.length c0, .slice A1 l1.length c1] rfl (by (try simp only [zl1, zl2, zl3]); first | done | rfl | (simp only [List.length_drop, List.length_take]; rfl)) ?_; (with_reducible refine (apostilleref8_Inv.calls k _ _ l0 (fun k_ => k_ < w.heap.size) _ _ l1 t618 t621 _ ?side1 ?side2 ?side3 A6.out).mono ?_); (case side1 => repeat (first | exact (Kd.C_below HR0.out HB.out) | (with_reducible refine zc1 ?_ _) | (with_reducible refine zc2 ?_ _) | (with_reducible refine zc3 ?_))); (case side2 => exact HC0.out); (case side3 => exact Kd.V_mk HC1.out (Kd.F_below (Kd.C_F (Kd.heap_int .u32) HR1.out) (by repeat (first | (with_reducible first | exact HB.out | apply zb1 | apply zb2 | apply zb3) | exact HB.out)))); rintro e w10 ⟨v619, rfl, ho0, hb⟩; refine ⟨_, rfl, ?_⟩; have n0_ := zm (Kd.V_below (by (with_reducible repeat (first | apply zv1 | apply zv2 | apply zv3)); exact HO616.out) hb); have n1_ := zm (Kd.V_lower (Kd.V_mono (ok' := fun k_ => True) ho0 (fun k_ hk_ => trivial)) (below_size (by repeat (first | (with_reducible first | exact HB.out | apply zb1 | apply zb2 | apply zb3) | exact HB.out)))); have n2_ := zm (below_step (by repeat (first | (with_reducible first | exact HB.out | apply zb1 | apply zb2 | apply zb3) | exact HB.out)) hb); clear HO616; clear HB; have HO616 := n0_; have HO620 := n1_; have HB := n2_; clear n0_ n1_ n2_; (try clear hb); (try clear hb2); (try clear hk); (try clear hi); (try clear ho0)))
    (try simp only [Act.put, List.setIfInBounds_toArray, List.set_cons_zero, List.set_cons_succ])
    go_cut [36] (fun v36 wc => ∃ (kq : Nat) (x36_6 : Bool), v36 = .bool x36_6 ∧ Aside0 (apostillelaw8_ModInverse.j0 kq l0 l1 t614 t617 x36_6 = some r) ∧ Aside0 (kq ≤ k) ∧ Aside0 (Kd.V (Kd.int .u32) 31 wc w.heap.size (fun _ => True) v615 t614) ∧ Aside0 (Below w.heap.size w wc))
    case first =>
      have H := HC7.out
      clear HC7
      replace H := Option.bind_eq_some_iff.mp H
      obtain ⟨t622, A110, H⟩ := H
      replace H : (if t622 = true then (apostillelaw8_ModInverse.j0 k l0 l1 t614 t617 (t617 != t621)) else (apostillelaw8_ModInverse.j0 k l0 l1 t614 t617 true)) = some r := H
      have A11 := zm A110
      clear A110
      by_cases c12 : t622 = true
      · subst c12
        have H1 : (apostillelaw8_ModInverse.j0 k l0 l1 t614 t617 (t617 != t621)) = some r := by rw [if_pos rfl] at H; exact H
        clear H
        have H := H1
        clear H1
        have H' := zm H
        clear H
        obtain ⟨Ao13, co13, eo13⟩ := Kd.V_slice HO616.out
        subst eo13
        obtain ⟨Ao14, co14, eo14⟩ := Kd.V_slice HO620.out
        subst eo14
        go_wp2_with (first | ((with_reducible refine gate_callee (f := 11) rfl ?_); refine goesL_ (some 30) rfl rfl Try.func11 (by kernel_rfl) rfl #[.slice Ao13 t614.length co13, .slice Ao14 t618.length co14] rfl (by (try simp only [zl1, zl2, zl3]); first | done | rfl | (simp only [List.length_drop, List.length_take]; rfl)) ?_; (with_reducible refine (apostillelaw8_same.calls k _ _ t614 _ _ t618 true _ ?side1 ?side2 ?side3 ?side4 A11.out).mono ?_); (case side1 => repeat (first | exact (Kd.V_reads' HO616.out).2.2 | (with_reducible refine zc1 ?_ _) | (with_reducible refine zc2 ?_ _) | (with_reducible refine zc3 ?_))); (case side2 => exact (Kd.V_reads' HO616.out).2.1); (case side3 => repeat (first | exact (Kd.V_reads' HO620.out).2.2 | (with_reducible refine zc1 ?_ _) | (with_reducible refine zc2 ?_ _) | (with_reducible refine zc3 ?_))); (case side4 => exact (Kd.V_reads' HO620.out).2.1); rintro e w' ⟨rfl, ⟨nd, rfl⟩⟩; refine ⟨_, rfl, ?_⟩))
        go_meet
        case rel => exact ⟨_, ((t617 != t621)), (by first | rfl | (simp; done) | (simp [*]; done)), H', ⟨by first | omega | exact Nat.le_refl _⟩, ⟨by (with_reducible repeat (first | apply zv1 | apply zv2 | apply zv3)); (first | exact HO616.out | exact Kd.V_mono HO616.out (fun k_ h_ => h_.1))⟩, ⟨by repeat (first | (with_reducible first | exact HB.out | apply zb1 | apply zb2 | apply zb3) | exact HB.out)⟩⟩
      · replace c12 := Bool.eq_false_iff.mpr c12
        subst c12
        have H1 : (apostillelaw8_ModInverse.j0 k l0 l1 t614 t617 true) = some r := by rw [if_neg (show ¬ (false = true) by decide)] at H; exact H
        clear H
        have H := H1
        clear H1
        have H' := zm H
        clear H
        obtain ⟨Ao15, co15, eo15⟩ := Kd.V_slice HO616.out
        subst eo15
        obtain ⟨Ao16, co16, eo16⟩ := Kd.V_slice HO620.out
        subst eo16
        go_wp2_with (first | ((with_reducible refine gate_callee (f := 11) rfl ?_); refine goesL_ (some 30) rfl rfl Try.func11 (by kernel_rfl) rfl #[.slice Ao15 t614.length co15, .slice Ao16 t618.length co16] rfl (by (try simp only [zl1, zl2, zl3]); first | done | rfl | (simp only [List.length_drop, List.length_take]; rfl)) ?_; (with_reducible refine (apostillelaw8_same.calls k _ _ t614 _ _ t618 false _ ?side1 ?side2 ?side3 ?side4 A11.out).mono ?_); (case side1 => repeat (first | exact (Kd.V_reads' HO616.out).2.2 | (with_reducible refine zc1 ?_ _) | (with_reducible refine zc2 ?_ _) | (with_reducible refine zc3 ?_))); (case side2 => exact (Kd.V_reads' HO616.out).2.1); (case side3 => repeat (first | exact (Kd.V_reads' HO620.out).2.2 | (with_reducible refine zc1 ?_ _) | (with_reducible refine zc2 ?_ _) | (with_reducible refine zc3 ?_))); (case side4 => exact (Kd.V_reads' HO620.out).2.1); rintro e w' ⟨rfl, ⟨nd, rfl⟩⟩; refine ⟨_, rfl, ?_⟩))
        go_meet
        case rel => exact ⟨_, (true), (by first | rfl | (simp; done) | (simp [*]; done)), H', ⟨by first | omega | exact Nat.le_refl _⟩, ⟨by (with_reducible repeat (first | apply zv1 | apply zv2 | apply zv3)); (first | exact HO616.out | exact Kd.V_mono HO616.out (fun k_ h_ => h_.1))⟩, ⟨by repeat (first | (with_reducible first | exact HB.out | apply zb1 | apply zb2 | apply zb3) | exact HB.out)⟩⟩
    case rest =>
      clear HC7
      try clear c1
      try clear p2
      try clear c4
      try clear c9
      try clear c11
      try clear c12
      try clear c13
      try clear c14
      obtain ⟨kq, x36_6, rfl, HA, HJ6, HO_5, HB⟩ := hcut
      cases kq with
      | zero => exact absurd HA.out (by simp [apostillelaw8_ModInverse.j0])
      | succ kj6 =>
        have H := HA.out
        clear HA
        simp only [apostillelaw8_ModInverse.j0] at H
        by_cases c17 : x36_6 = true
        · subst c17
          have H1 : (some false) = some r := by rw [if_pos rfl] at H; exact H
          clear H
          have H := H1
          clear H1
          exact absurd (Option.some.inj H) (by rw [hrT]; decide)
        · replace c17 := Bool.eq_false_iff.mpr c17
          subst c17
          have H1 : (if t617 = true then ((apostilleref8_Mul.f kj6 l0 t614 l1).bind fun bt624 => ((apostillelaw8_same.f kj6 bt624.1 (([1] : List Int))).bind fun t631 => (if t631 = true then ((apostilleref7_Cmp.f kj6 t614 l1).bind fun t632 => (if t632 < 0 then ((apostillelaw8_known.f kj6).bind fun t633 => (some t633)) else (some false))) else (some false)))) else ((apostillelaw8_known.f kj6).bind fun t623 => (some t623))) = some r := by rw [if_neg (show ¬ (false = true) by decide)] at H; exact H
          clear H
          have H := H1
          clear H1
          by_cases c18 : t617 = true
          · subst c18
            have H1 : ((apostilleref8_Mul.f kj6 l0 t614 l1).bind fun bt624 => ((apostillelaw8_same.f kj6 bt624.1 (([1] : List Int))).bind fun t631 => (if t631 = true then ((apostilleref7_Cmp.f kj6 t614 l1).bind fun t632 => (if t632 < 0 then ((apostillelaw8_known.f kj6).bind fun t633 => (some t633)) else (some false))) else (some false)))) = some r := by rw [if_pos rfl] at H; exact H
            clear H
            have H := H1
            clear H1
            replace H := Option.bind_eq_some_iff.mp H
            obtain ⟨⟨t624, t627⟩, A190, H⟩ := H
            replace H : ((apostillelaw8_same.f kj6 t624 (([1] : List Int))).bind fun t631 => (if t631 = true then ((apostilleref7_Cmp.f kj6 t614 l1).bind fun t632 => (if t632 < 0 then ((apostillelaw8_known.f kj6).bind fun t633 => (some t633)) else (some false))) else (some false))) = some r := H
            have A19 := zm A190
            clear A190
            obtain ⟨y628, hy628⟩ : ∃ y_ : List Int, y_ = (([1] : List Int)) := ⟨_, rfl⟩
            replace H : ((apostillelaw8_same.f kj6 t624 y628).bind fun t631 => (if t631 = true then ((apostilleref7_Cmp.f kj6 t614 l1).bind fun t632 => (if t632 < 0 then ((apostillelaw8_known.f kj6).bind fun t633 => (some t633)) else (some false))) else (some false))) = some r := by first | (rw [hy628]; with_reducible exact H) | (have H2_ := (Option.bind_some _ _).symm.trans H; rw [hy628]; with_reducible exact H2_) | (have H2_ := (Option.bind_some _ _).symm.trans H; with_reducible exact H2_) | with_reducible exact H | (rw [hy628]; exact H) | exact H
            have Ny628 := zm hy628
            clear hy628
            replace H := Option.bind_eq_some_iff.mp H
            obtain ⟨t631, A200, H⟩ := H
            replace H : (if t631 = true then ((apostilleref7_Cmp.f kj6 t614 l1).bind fun t632 => (if t632 < 0 then ((apostillelaw8_known.f kj6).bind fun t633 => (some t633)) else (some false))) else (some false)) = some r := H
            have A20 := zm A200
            clear A200
            by_cases c21 : t631 = true
            · subst c21
              have H1 : ((apostilleref7_Cmp.f kj6 t614 l1).bind fun t632 => (if t632 < 0 then ((apostillelaw8_known.f kj6).bind fun t633 => (some t633)) else (some false))) = some r := by rw [if_pos rfl] at H; exact H
              clear H
              have H := H1
              clear H1
              replace H := Option.bind_eq_some_iff.mp H
              obtain ⟨t632, A220, H⟩ := H
              replace H : (if t632 < 0 then ((apostillelaw8_known.f kj6).bind fun t633 => (some t633)) else (some false)) = some r := H
              have A22 := zm A220
              clear A220
              by_cases c23 : t632 < 0
              · rw [if_pos c23] at H
                have c23b0 : decide (t632 < 0) = true := decide_eq_true c23
                clear c23
                replace H := Option.bind_eq_some_iff.mp H
                obtain ⟨t633, A240, H⟩ := H
                replace H : (some t633) = some r := H
                have A24 := zm A240
                clear A240
                obtain rfl := Option.some.inj H
                obtain ⟨Ao25, co25, eo25⟩ := Kd.V_slice HO_5.out
                subst eo25
                go_wp2_with (first | ((with_reducible refine gate_callee (f := 15) rfl ?_); refine goesL_ (some 44) rfl rfl Try.func15 (by kernel_rfl) rfl #[.slice A0 l0.length c0, .slice Ao25 t614.length co25, .slice A1 l1.length c1] rfl (by (try simp only [zl1, zl2, zl3]); first | done | rfl | (simp only [List.length_drop, List.length_take]; rfl)) ?_; (with_reducible refine (apostilleref8_Mul.calls kj6 _ _ l0 _ _ t614 _ _ l1 t624 t627 _ ?side1 ?side2 ?side3 ?side4 ?side5 ?side6 A19.out).mono ?_); (case side1 => repeat (first | exact (Kd.C_below HR0.out HB.out) | (with_reducible refine zc1 ?_ _) | (with_reducible refine zc2 ?_ _) | (with_reducible refine zc3 ?_))); (case side2 => exact HC0.out); (case side3 => repeat (first | exact (Kd.V_reads' HO_5.out).2.2 | (with_reducible refine zc1 ?_ _) | (with_reducible refine zc2 ?_ _) | (with_reducible refine zc3 ?_))); (case side4 => exact (Kd.V_reads' HO_5.out).2.1); (case side5 => repeat (first | exact (Kd.C_below HR1.out HB.out) | (with_reducible refine zc1 ?_ _) | (with_reducible refine zc2 ?_ _) | (with_reducible refine zc3 ?_))); (case side6 => exact HC1.out); rintro e w26 ⟨v625, rfl, ho0, hb⟩; refine ⟨_, rfl, ?_⟩; have n0_ := zm (Kd.V_below (by (with_reducible repeat (first | apply zv1 | apply zv2 | apply zv3)); exact HO_5.out) hb); have n1_ := zm (Kd.V_lower (Kd.V_mono (ok' := fun k_ => True) ho0 (fun k_ hk_ => trivial)) (below_size (by repeat (first | (with_reducible first | exact HB.out | apply zb1 | apply zb2 | apply zb3) | exact HB.out)))); have n2_ := zm (below_step (by repeat (first | (with_reducible first | exact HB.out | apply zb1 | apply zb2 | apply zb3) | exact HB.out)) hb); clear HO_5; clear HB; have HO_5 := n0_; have HO626 := n1_; have HB := n2_; clear n0_ n1_ n2_; (try clear hb); (try clear hb2); (try clear hk); (try clear hi); (try clear ho0)) | ((with_reducible refine gate_dst (N := 48) rfl ?_); refine Kd.R_lit (Kd.int .u32) _ 31 ?hg (N := 48) ?hd (xs := ([1] : List Int)) (inner := [.int .u32 1]) (ok := fun _ => True) (okp := fun _ => True) ?hr ?hp (fun _ hk => hk) trivial (Below.refl _ _) (Nat.le_refl _) (by simp) ?_; (case hd => rfl); (case hg => rfl); (case hr => first | (go_simp; done) | (go_simp; rfl)); (case hp => exact (Reps.one (show Kd.M (Kd.int .u32) _ _ _ 1 [.int .u32 1] from rfl) (Reps.none _ _))); intro v629 w27 ho28 hb hg_ hnew_; clear hg_ hnew_; (first | rw [← Ny628.out] at ho28 | (simp only [Int.reduceToNat] at ho28; rw [← Ny628.out] at ho28)); have n0_ := zm (Kd.V_elder' (by (with_reducible repeat (first | apply zv1 | apply zv2 | apply zv3)); exact HO_5.out) (Kd.R_base ho28) hb); have n1_ := zm (Kd.V_elder' (by (with_reducible repeat (first | apply zv1 | apply zv2 | apply zv3)); exact HO626.out) (Kd.R_base ho28) hb); have n2_ := zm (Kd.R_lower ho28 (below_size (by repeat (first | (with_reducible first | exact HB.out | apply zb1 | apply zb2 | apply zb3) | exact HB.out)))); have n3_ := zm (below_step (by repeat (first | (with_reducible first | exact HB.out | apply zb1 | apply zb2 | apply zb3) | exact HB.out)) hb); clear HO_5; clear HO626; clear HB; have HO_5 := n0_; have HO626 := n1_; have HO630 := n2_; have HB := n3_; clear n0_ n1_ n2_ n3_; clear hb ho28; obtain ⟨Ao29, co29, eo29⟩ := Kd.V_slice HO626.out; subst eo29; obtain ⟨Ao30, co30, eo30⟩ := Kd.R_slice HO630.out; subst eo30) | ((with_reducible refine gate_callee (f := 11) rfl ?_); refine goesL_ (some 49) rfl rfl Try.func11 (by kernel_rfl) rfl #[.slice Ao29 t624.length co29, .slice Ao30 y628.length co30] rfl (by (try simp only [zl1, zl2, zl3]); first | done | rfl | (simp only [List.length_drop, List.length_take]; rfl)) ?_; (with_reducible refine (apostillelaw8_same.calls kj6 _ _ t624 _ _ y628 true _ ?side1 ?side2 ?side3 ?side4 A20.out).mono ?_); (case side1 => repeat (first | exact (Kd.V_reads' HO626.out).2.2 | (with_reducible refine zc1 ?_ _) | (with_reducible refine zc2 ?_ _) | (with_reducible refine zc3 ?_))); (case side2 => exact (Kd.V_reads' HO626.out).2.1); (case side3 => repeat (first | exact (Kd.R_reads' HO630.out).2.2 | (with_reducible refine zc1 ?_ _) | (with_reducible refine zc2 ?_ _) | (with_reducible refine zc3 ?_))); (case side4 => exact (Kd.R_reads' HO630.out).2.1); rintro e w' ⟨rfl, ⟨nd, rfl⟩⟩; refine ⟨_, rfl, ?_⟩) | (go_at_call 16; (with_reducible refine (apostilleref7_Cmp.calls kj6 _ _ t614 _ _ l1 t632 _ ?side1 ?side2 ?side3 ?side4 A22.out).mono ?_); (case side1 => repeat (first | exact (Kd.V_reads' HO_5.out).2.2 | (with_reducible refine zc1 ?_ _) | (with_reducible refine zc2 ?_ _) | (with_reducible refine zc3 ?_))); (case side2 => exact (Kd.V_reads' HO_5.out).2.1); (case side3 => repeat (first | exact (Kd.C_below HR1.out (by repeat (first | (with_reducible first | exact HB.out | apply zb1 | apply zb2 | apply zb3) | exact HB.out))) | (with_reducible refine zc1 ?_ _) | (with_reducible refine zc2 ?_ _) | (with_reducible refine zc3 ?_))); (case side4 => exact HC1.out); rintro e w' ⟨rfl, ⟨nd, rfl⟩⟩; (try clear A22)) | (go_at_call 12; (with_reducible refine (apostillelaw8_known.calls kj6  t633 _ A24.out).mono ?_); rintro e w31 ⟨rfl, hb⟩; have n0_ := zm (Kd.V_below (by (with_reducible repeat (first | apply zv1 | apply zv2 | apply zv3)); exact HO_5.out) hb); have n1_ := zm (Kd.V_below (by (with_reducible repeat (first | apply zv1 | apply zv2 | apply zv3)); exact HO626.out) hb); have n2_ := zm (Kd.R_below (by (with_reducible repeat (first | apply zr1 | apply zr2 | apply zr3)); exact HO630.out) hb); have n3_ := zm (below_step (by repeat (first | (with_reducible first | exact HB.out | apply zb1 | apply zb2 | apply zb3) | exact HB.out)) hb); clear HO_5; clear HO626; clear HO630; clear HB; have HO_5 := n0_; have HO626 := n1_; have HO630 := n2_; have HB := n3_; clear n0_ n1_ n2_ n3_; (try clear hb); (try clear hb2); (try clear hk); (try clear hi); (try clear A24)))
                go_ret
                exact ⟨by first | rfl | (simp [errW_none, errW_some] <;> rfl) | (simp [*, errW_none, errW_some] <;> rfl), by repeat (first | (with_reducible first | exact HB.out | apply zb1 | apply zb2 | apply zb3) | exact HB.out)⟩
              · rw [if_neg c23] at H
                have c23b0 : decide (t632 < 0) = false := decide_eq_false c23
                clear c23
                exact absurd (Option.some.inj H) (by rw [hrT]; decide)
            · replace c21 := Bool.eq_false_iff.mpr c21
              subst c21
              have H1 : (some false) = some r := by rw [if_neg (show ¬ (false = true) by decide)] at H; exact H
              clear H
              have H := H1
              clear H1
              exact absurd (Option.some.inj H) (by rw [hrT]; decide)
          · replace c18 := Bool.eq_false_iff.mpr c18
            subst c18
            have H1 : ((apostillelaw8_known.f kj6).bind fun t623 => (some t623)) = some r := by rw [if_neg (show ¬ (false = true) by decide)] at H; exact H
            clear H
            have H := H1
            clear H1
            replace H := Option.bind_eq_some_iff.mp H
            obtain ⟨t623, A320, H⟩ := H
            replace H : (some t623) = some r := H
            have A32 := zm A320
            clear A320
            obtain rfl := Option.some.inj H
            go_wp2_with (first | ((with_reducible refine gate_callee (f := 12) rfl ?_); refine goesL_ (some 39) rfl rfl Try.func12 (by kernel_rfl) rfl #[] rfl (by (try simp only [zl1, zl2, zl3]); first | done | rfl | (simp only [List.length_drop, List.length_take]; rfl)) ?_; (with_reducible refine (apostillelaw8_known.calls kj6  t623 _ A32.out).mono ?_); rintro e w33 ⟨rfl, hb⟩; refine ⟨_, rfl, ?_⟩; have n0_ := zm (Kd.V_below (by (with_reducible repeat (first | apply zv1 | apply zv2 | apply zv3)); exact HO_5.out) hb); have n1_ := zm (below_step (by repeat (first | (with_reducible first | exact HB.out | apply zb1 | apply zb2 | apply zb3) | exact HB.out)) hb); clear HO_5; clear HB; have HO_5 := n0_; have HB := n1_; clear n0_ n1_; (try clear hb); (try clear hb2); (try clear hk); (try clear hi)))
            go_ret
            exact ⟨by first | rfl | (simp [errW_none, errW_some] <;> rfl) | (simp [*, errW_none, errW_some] <;> rfl), by repeat (first | (with_reducible first | exact HB.out | apply zb1 | apply zb2 | apply zb3) | exact HB.out)⟩
  · replace c4 := Bool.eq_false_iff.mpr c4
    subst c4
    have H1 : (some true) = some r := by rw [if_neg (show ¬ (false = true) by decide)] at H; exact H
    clear H
    have H := H1
    clear H1
    obtain rfl := Option.some.inj H
    go_enter Try.func4, Try.ntmps4
    go_wp2_with (first | ((with_reducible refine gate_callee (f := 8) rfl ?_); refine goesL_ (some 14) rfl rfl Try.func8 (by kernel_rfl) rfl #[.int .i64 40, .slice (some ⟨_, 0, none⟩) 2 2] rfl (by (try simp only [zl1, zl2, zl3]); first | done | rfl | (simp only [List.length_drop, List.length_take]; rfl)) ?_; (with_reducible refine (law8_such2.calls k 40 _ _ l0 _ _ l1 false _ ?side1 ?side2 ?side3 ?side4 A3.out).mono ?_); (case side1 => repeat (first | exact HR0.out | (with_reducible refine zc1 ?_ _) | (with_reducible refine zc2 ?_ _) | (with_reducible refine zc3 ?_))); (case side2 => exact HC0.out); (case side3 => repeat (first | exact HR1.out | (with_reducible refine zc1 ?_ _) | (with_reducible refine zc2 ?_ _) | (with_reducible refine zc3 ?_))); (case side4 => exact HC1.out); rintro e w34 ⟨rfl, hb⟩; refine ⟨_, rfl, ?_⟩; have n0_ := zm (below_step (by repeat (first | (with_reducible first | exact HB.out | apply zb1 | apply zb2 | apply zb3) | exact HB.out)) hb); clear HB; have HB := n0_; clear n0_; (try clear hb); (try clear hb2); (try clear hk); (try clear hi)))
    go_ret
    exact ⟨by first | rfl | (simp [errW_none, errW_some] <;> rfl) | (simp [*, errW_none, errW_some] <;> rfl), by repeat (first | (with_reducible first | exact HB.out | apply zb1 | apply zb2 | apply zb3) | exact HB.out)⟩

/-- THE ONE PURE STATEMENT of apostillelaw8_ModInverse: yours. -/
def apostillelaw8_ModInverse.Pure : Prop := ∀ (l0 : List Int) (l1 : List Int), l0.length ≤ maxLen → l0.length * 4 ≤ 140737488351232 → (∀ x ∈ l0, (Lit.int .u32 x).wf = true) → l1.length ≤ maxLen → l1.length * 4 ≤ 140737488351232 → (∀ x ∈ l1, (Lit.int .u32 x).wf = true) → ∃ k, apostillelaw8_ModInverse.f k l0 l1 = some true
theorem apostillelaw8_ModInverse.walk (P : apostillelaw8_ModInverse.Pure) (a0 : Option Addr) (len0 cap0 : Nat) (z0 : List Int) (a1 : Option Addr) (len1 cap1 : Nat) (z1 : List Int) (w : World) (w0 : (a0 = none ∧ len0 = 0 ∧ cap0 = 0 ∧ z0 = []) ∨ ∃ x, a0 = some x ∧ len0 ≤ cap0 ∧ cap0 ≤ maxLen ∧ z0.length = cap0 ∧ (∀ i, i < z0.length → w.cell? (x.add i) = some (.int .u32 (z0.getD i 0))) ∧ ∀ n ∈ z0, (Lit.int .u32 n).wf = true) (y0 : len0 * 4 ≤ 140737488351232) (w1 : (a1 = none ∧ len1 = 0 ∧ cap1 = 0 ∧ z1 = []) ∨ ∃ x, a1 = some x ∧ len1 ≤ cap1 ∧ cap1 ≤ maxLen ∧ z1.length = cap1 ∧ (∀ i, i < z1.length → w.cell? (x.add i) = some (.int .u32 (z1.getD i 0))) ∧ ∀ n ∈ z1, (Lit.int .u32 n).wf = true) (y1 : len1 * 4 ≤ 140737488351232) :
    Calls Try.prog 4 #[.slice a0 len0 cap0, .slice a1 len1 cap1] w fun e w' => e = .returned (.bool true) ∧ Below w.heap.size w w' := by
  obtain ⟨l0, rfl, hr0, hm0, hw0, hc0⟩ := ReadsInt.ofRowC w0
  obtain ⟨l1, rfl, hr1, hm1, hw1, hc1⟩ := ReadsInt.ofRowC w1
  obtain ⟨k, h⟩ := P l0 l1 hm0 y0 hw0 hm1 y1 hw1
  refine (apostillelaw8_ModInverse.calls k _ _ l0 _ _ l1 true w (Kd.C_of_reads (d := (0 : Int)) (h1 := fun _ => rfl) hr0) hc0 (Kd.C_of_reads (d := (0 : Int)) (h1 := fun _ => rfl) hr1) hc1 rfl h).mono ?_
  rintro e w' ⟨rfl, hd⟩
  exact ⟨rfl, hd⟩

end Go.Proofs.Ytgdkbfipjeinjaa.A
