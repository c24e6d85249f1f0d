-- a text of this claim
import Derived.Test.YtgdkbfipjeinjaaAx10
import Derived.Test.YtgdkbfipjeinjaaAx15
import Derived.Test.YtgdkbfipjeinjaaAx16
import Derived.Test.YtgdkbfipjeinjaaAx18
import Derived.Test.YtgdkbfipjeinjaaAx7
import Derived.Test.YtgdkbfipjeinjaaAx8
import Derived.Test.YtgdkbfipjeinjaaAx9
import Derived.Test.YtgdkbfipjeinjaaAx0
namespace Go.Proofs.Ytgdkbfipjeinjaa.A
open Go.RowKit Go.Proofs.YtgdkbfipjeinjaaW.PrintWords Go.Proofs.YtgdkbfipjeinjaaW.PrintLast Go.Proofs.YtgdkbfipjeinjaaW.PrintMore
attribute [local go_sem] max2_int min2_int max_two min_two max_three min_three max_four min_four   -- for this text's walks alone
set_option linter.unusedVariables false
set_option linter.unusedSimpArgs false

/-! ### apostillelaw8_ModLaws: function 6 -/
def apostillelaw8_ModLaws.j0 : Nat → List Int → List Int → List Int → List Int → Bool → Option (Bool)
  | 0, _, _, _, _, _ => none
  | k + 1, x0, x1, x2, x3, x39 => if x39 = true then (some true) else ((mod_Exp.f k x0 x1 x3).bind fun bt679 => ((mod_Exp.f k x0 x2 x3).bind fun bt683 => ((apostilleref7_Add.f k x1 x2).bind fun t687 => ((mod_Exp.f k x0 t687 x3).bind fun bt690 => ((mod_Mul.f k bt679.1 bt683.1 x3).bind fun bt694 => ((mod_Add.f k x0 x1 x3).bind fun bt698 => ((mod_Sub.f k bt698.1 x1 x3).bind fun bt702 => ((apostilleref8_Rest.f k x0 x3).bind fun bt706 => (if bt694.2 = true then ((apostillelaw8_same.f k bt690.1 bt694.1).bind fun t710 => (if t710 = true then (if bt702.2 = true then ((apostillelaw8_same.f k bt702.1 bt706.1).bind fun t711 => (if t711 = true then ((apostilleref7_Cmp.f k bt679.1 x3).bind fun t712 => (if t712 < 0 then ((apostillelaw8_known.f k).bind fun t713 => (some t713)) else (some false))) else (some false))) else (some false)) else (some false))) else (some false))))))))))
def apostillelaw8_ModLaws.f (k : Nat) (l0 : List Int) (l1 : List Int) (l2 : List Int) (l3 : List Int) : Option (Bool) := (law8_such2.f k 20 l0 l3).bind fun t677 => (if t677 = true then ((law8_such2.f k 2 l1 l2).bind fun t678 => (if t678 = true then (apostillelaw8_ModLaws.j0 k l0 l1 l2 l3 ((l3.length : Int) == 0)) else (apostillelaw8_ModLaws.j0 k l0 l1 l2 l3 true))) else (apostillelaw8_ModLaws.j0 k l0 l1 l2 l3 true))
set_option maxHeartbeats 8000000 in
set_option maxRecDepth 100000 in
theorem apostillelaw8_ModLaws.calls (k : Nat) (A0 : Option Addr) (c0 : Nat) (l0 : List Int) (A1 : Option Addr) (c1 : Nat) (l1 : List Int) (A2 : Option Addr) (c2 : Nat) (l2 : List Int) (A3 : Option Addr) (c3 : Nat) (l3 : List Int) (r : Bool) (w : World) (hr0 : Kd.C (Kd.int .u32) w A0 l0.length l0) (hc0 : l0.length ≤ c0) (hr1 : Kd.C (Kd.int .u32) w A1 l1.length l1) (hc1 : l1.length ≤ c1) (hr2 : Kd.C (Kd.int .u32) w A2 l2.length l2) (hc2 : l2.length ≤ c2) (hr3 : Kd.C (Kd.int .u32) w A3 l3.length l3) (hc3 : l3.length ≤ c3) (hrT : r = true) (h : apostillelaw8_ModLaws.f k l0 l1 l2 l3 = some r) :
    Calls Try.prog 6 #[.slice A0 l0.length c0, .slice A1 l1.length c1, .slice A2 l2.length c2, .slice A3 l3.length c3] w fun e w' => e = .returned (.bool r) ∧ Below w.heap.size w w' := by
  have HR0 := zm hr0
  have HC0 := zm hc0
  clear hr0 hc0
  have HR1 := zm hr1
  have HC1 := zm hc1
  clear hr1 hc1
  have HR2 := zm hr2
  have HC2 := zm hc2
  clear hr2 hc2
  have HR3 := zm hr3
  have HC3 := zm hc3
  clear hr3 hc3
  have HB := zm (Below.refl w.heap.size w)
  have H : ((law8_such2.f k 20 l0 l3).bind fun t677 => (if t677 = true then ((law8_such2.f k 2 l1 l2).bind fun t678 => (if t678 = true then (apostillelaw8_ModLaws.j0 k l0 l1 l2 l3 ((l3.length : Int) == 0)) else (apostillelaw8_ModLaws.j0 k l0 l1 l2 l3 true))) else (apostillelaw8_ModLaws.j0 k l0 l1 l2 l3 true))) = some r := h
  clear h
  have HC5 := zm H
  clear H
  go_enter Try.func6, Try.ntmps6
  go_upto_region 1 with (fail)
  go_cut [39] (fun v39 wc => ∃ (kq : Nat) (x39_4 : Bool), v39 = .bool x39_4 ∧ Aside0 (apostillelaw8_ModLaws.j0 kq l0 l1 l2 l3 x39_4 = some r) ∧ Aside0 (kq ≤ k) ∧ Aside0 (Below w.heap.size w wc))
  case first =>
    have H := HC5.out
    clear HC5
    replace H := Option.bind_eq_some_iff.mp H
    obtain ⟨t677, A60, H⟩ := H
    replace H : (if t677 = true then ((law8_such2.f k 2 l1 l2).bind fun t678 => (if t678 = true then (apostillelaw8_ModLaws.j0 k l0 l1 l2 l3 ((l3.length : Int) == 0)) else (apostillelaw8_ModLaws.j0 k l0 l1 l2 l3 true))) else (apostillelaw8_ModLaws.j0 k l0 l1 l2 l3 true)) = some r := H
    have A6 := zm A60
    clear A60
    by_cases c7 : t677 = true
    · subst c7
      have H1 : ((law8_such2.f k 2 l1 l2).bind fun t678 => (if t678 = true then (apostillelaw8_ModLaws.j0 k l0 l1 l2 l3 ((l3.length : Int) == 0)) else (apostillelaw8_ModLaws.j0 k l0 l1 l2 l3 true))) = some r := by rw [if_pos rfl] at H; exact H
      clear H
      have H := H1
      clear H1
      replace H := Option.bind_eq_some_iff.mp H
      obtain ⟨t678, A80, H⟩ := H
      replace H : (if t678 = true then (apostillelaw8_ModLaws.j0 k l0 l1 l2 l3 ((l3.length : Int) == 0)) else (apostillelaw8_ModLaws.j0 k l0 l1 l2 l3 true)) = some r := H
      have A8 := zm A80
      clear A80
      by_cases c9 : t678 = true
      · subst c9
        have H1 : (apostillelaw8_ModLaws.j0 k l0 l1 l2 l3 ((l3.length : Int) == 0)) = some r := by rw [if_pos rfl] at H; exact H
        clear H
        have H := H1
        clear H1
        have H' := zm H
        clear H
        go_wp2_with (first | ((with_reducible refine gate_callee (f := 8) rfl ?_); refine goesL_ (some 26) rfl rfl Try.func8 (by kernel_rfl) rfl #[.int .i64 20, .slice (some ⟨_, 0, none⟩) 2 2] rfl (by (try simp only [zl1, zl2, zl3]); first | done | rfl | (simp only [List.length_drop, List.length_take]; rfl)) ?_; (with_reducible refine (law8_such2.calls k 20 _ _ l0 _ _ l3 true _ ?side1 ?side2 ?side3 ?side4 A6.out).mono ?_); (case side1 => repeat (first | exact (Kd.C_below HR0.out HB.out) | (with_reducible refine zc1 ?_ _) | (with_reducible refine zc2 ?_ _) | (with_reducible refine zc3 ?_))); (case side2 => exact HC0.out); (case side3 => repeat (first | exact (Kd.C_below HR3.out HB.out) | (with_reducible refine zc1 ?_ _) | (with_reducible refine zc2 ?_ _) | (with_reducible refine zc3 ?_))); (case side4 => exact HC3.out); rintro e w10 ⟨rfl, hb⟩; refine ⟨_, rfl, ?_⟩; have n0_ := zm (below_step (by repeat (first | (with_reducible first | exact HB.out | apply zb1 | apply zb2 | apply zb3) | exact HB.out)) hb); clear HB; have HB := n0_; clear n0_; (try clear hb); (try clear hb2); (try clear hk); (try clear hi)) | (go_at_call 8; (with_reducible refine (law8_such2.calls k 2 _ _ l1 _ _ l2 true _ ?side1 ?side2 ?side3 ?side4 A8.out).mono ?_); (case side1 => repeat (first | exact (Kd.C_below HR1.out HB.out) | (with_reducible refine zc1 ?_ _) | (with_reducible refine zc2 ?_ _) | (with_reducible refine zc3 ?_))); (case side2 => exact HC1.out); (case side3 => repeat (first | exact (Kd.C_below HR2.out HB.out) | (with_reducible refine zc1 ?_ _) | (with_reducible refine zc2 ?_ _) | (with_reducible refine zc3 ?_))); (case side4 => exact HC2.out); rintro e w11 ⟨rfl, hb⟩; have n0_ := zm (below_step (by repeat (first | (with_reducible first | exact HB.out | apply zb1 | apply zb2 | apply zb3) | exact HB.out)) hb); clear HB; have HB := n0_; clear n0_; (try clear hb); (try clear hb2); (try clear hk); (try clear hi); (try clear A8)))
        go_meet
        case rel => exact ⟨_, (((l3.length : Int) == 0)), (by first | rfl | (simp; done) | (simp [*]; done)), H', ⟨by first | omega | exact Nat.le_refl _⟩, ⟨by repeat (first | (with_reducible first | exact HB.out | apply zb1 | apply zb2 | apply zb3) | exact HB.out)⟩⟩
      · replace c9 := Bool.eq_false_iff.mpr c9
        subst c9
        have H1 : (apostillelaw8_ModLaws.j0 k l0 l1 l2 l3 true) = some r := by rw [if_neg (show ¬ (false = true) by decide)] at H; exact H
        clear H
        have H := H1
        clear H1
        have H' := zm H
        clear H
        go_wp2_with (first | ((with_reducible refine gate_callee (f := 8) rfl ?_); refine goesL_ (some 26) rfl rfl Try.func8 (by kernel_rfl) rfl #[.int .i64 20, .slice (some ⟨_, 0, none⟩) 2 2] rfl (by (try simp only [zl1, zl2, zl3]); first | done | rfl | (simp only [List.length_drop, List.length_take]; rfl)) ?_; (with_reducible refine (law8_such2.calls k 20 _ _ l0 _ _ l3 true _ ?side1 ?side2 ?side3 ?side4 A6.out).mono ?_); (case side1 => repeat (first | exact (Kd.C_below HR0.out HB.out) | (with_reducible refine zc1 ?_ _) | (with_reducible refine zc2 ?_ _) | (with_reducible refine zc3 ?_))); (case side2 => exact HC0.out); (case side3 => repeat (first | exact (Kd.C_below HR3.out HB.out) | (with_reducible refine zc1 ?_ _) | (with_reducible refine zc2 ?_ _) | (with_reducible refine zc3 ?_))); (case side4 => exact HC3.out); rintro e w12 ⟨rfl, hb⟩; refine ⟨_, rfl, ?_⟩; have n0_ := zm (below_step (by repeat (first | (with_reducible first | exact HB.out | apply zb1 | apply zb2 | apply zb3) | exact HB.out)) hb); clear HB; have HB := n0_; clear n0_; (try clear hb); (try clear hb2); (try clear hk); (try clear hi)) | (go_at_call 8; (with_reducible refine (law8_such2.calls k 2 _ _ l1 _ _ l2 false _ ?side1 ?side2 ?side3 ?side4 A8.out).mono ?_); (case side1 => repeat (first | exact (Kd.C_below HR1.out HB.out) | (with_reducible refine zc1 ?_ _) | (with_reducible refine zc2 ?_ _) | (with_reducible refine zc3 ?_))); (case side2 => exact HC1.out); (case side3 => repeat (first | exact (Kd.C_below HR2.out HB.out) | (with_reducible refine zc1 ?_ _) | (with_reducible refine zc2 ?_ _) | (with_reducible refine zc3 ?_))); (case side4 => exact HC2.out); rintro e w13 ⟨rfl, hb⟩; have n0_ := zm (below_step (by repeat (first | (with_reducible first | exact HB.out | apply zb1 | apply zb2 | apply zb3) | exact HB.out)) hb); clear HB; have HB := n0_; clear n0_; (try clear hb); (try clear hb2); (try clear hk); (try clear hi); (try clear A8)))
        go_meet
        case rel => exact ⟨_, (true), (by first | rfl | (simp; done) | (simp [*]; done)), H', ⟨by first | omega | exact Nat.le_refl _⟩, ⟨by repeat (first | (with_reducible first | exact HB.out | apply zb1 | apply zb2 | apply zb3) | exact HB.out)⟩⟩
    · replace c7 := Bool.eq_false_iff.mpr c7
      subst c7
      have H1 : (apostillelaw8_ModLaws.j0 k l0 l1 l2 l3 true) = some r := by rw [if_neg (show ¬ (false = true) by decide)] at H; exact H
      clear H
      have H := H1
      clear H1
      have H' := zm H
      clear H
      go_wp2_with (first | ((with_reducible refine gate_callee (f := 8) rfl ?_); refine goesL_ (some 26) rfl rfl Try.func8 (by kernel_rfl) rfl #[.int .i64 20, .slice (some ⟨_, 0, none⟩) 2 2] rfl (by (try simp only [zl1, zl2, zl3]); first | done | rfl | (simp only [List.length_drop, List.length_take]; rfl)) ?_; (with_reducible refine (law8_such2.calls k 20 _ _ l0 _ _ l3 false _ ?side1 ?side2 ?side3 ?side4 A6.out).mono ?_); (case side1 => repeat (first | exact (Kd.C_below HR0.out HB.out) | (with_reducible refine zc1 ?_ _) | (with_reducible refine zc2 ?_ _) | (with_reducible refine zc3 ?_))); (case side2 => exact HC0.out); (case side3 => repeat (first | exact (Kd.C_below HR3.out HB.out) | (with_reducible refine zc1 ?_ _) | (with_reducible refine zc2 ?_ _) | (with_reducible refine zc3 ?_))); (case side4 => exact HC3.out); rintro e w14 ⟨rfl, hb⟩; refine ⟨_, rfl, ?_⟩; have n0_ := zm (below_step (by repeat (first | (with_reducible first | exact HB.out | apply zb1 | apply zb2 | apply zb3) | exact HB.out)) hb); clear HB; have HB := n0_; clear n0_; (try clear hb); (try clear hb2); (try clear hk); (try clear hi)))
      go_meet
      case rel => exact ⟨_, (true), (by first | rfl | (simp; done) | (simp [*]; done)), H', ⟨by first | omega | exact Nat.le_refl _⟩, ⟨by repeat (first | (with_reducible first | exact HB.out | apply zb1 | apply zb2 | apply zb3) | exact HB.out)⟩⟩
  case rest =>
    clear HC5
    try clear c1
    try clear c2
    try clear p2
    try clear c3
    try clear c6
    try clear c7
    try clear c9
    obtain ⟨kq, x39_4, rfl, HA, HJ4, HB⟩ := hcut
    cases kq with
    | zero => exact absurd HA.out (by simp [apostillelaw8_ModLaws.j0])
    | succ kj4 =>
      have H := HA.out
      clear HA
      simp only [apostillelaw8_ModLaws.j0] at H
      by_cases c15 : x39_4 = true
      · subst c15
        have H1 : (some true) = some r := by rw [if_pos rfl] at H; exact H
        clear H
        have H := H1
        clear H1
        obtain rfl := Option.some.inj H
        go_wp2
        go_ret
        exact ⟨by first | rfl | (simp [errW_none, errW_some] <;> rfl) | (simp [*, errW_none, errW_some] <;> rfl), by repeat (first | (with_reducible first | exact HB.out | apply zb1 | apply zb2 | apply zb3) | exact HB.out)⟩
      · replace c15 := Bool.eq_false_iff.mpr c15
        subst c15
        have H1 : ((mod_Exp.f kj4 l0 l1 l3).bind fun bt679 => ((mod_Exp.f kj4 l0 l2 l3).bind fun bt683 => ((apostilleref7_Add.f kj4 l1 l2).bind fun t687 => ((mod_Exp.f kj4 l0 t687 l3).bind fun bt690 => ((mod_Mul.f kj4 bt679.1 bt683.1 l3).bind fun bt694 => ((mod_Add.f kj4 l0 l1 l3).bind fun bt698 => ((mod_Sub.f kj4 bt698.1 l1 l3).bind fun bt702 => ((apostilleref8_Rest.f kj4 l0 l3).bind fun bt706 => (if bt694.2 = true then ((apostillelaw8_same.f kj4 bt690.1 bt694.1).bind fun t710 => (if t710 = true then (if bt702.2 = true then ((apostillelaw8_same.f kj4 bt702.1 bt706.1).bind fun t711 => (if t711 = true then ((apostilleref7_Cmp.f kj4 bt679.1 l3).bind fun t712 => (if t712 < 0 then ((apostillelaw8_known.f kj4).bind fun t713 => (some t713)) else (some false))) else (some false))) else (some false)) else (some false))) else (some false)))))))))) = some r := by rw [if_neg (show ¬ (false = true) by decide)] at H; exact H
        clear H
        have H := H1
        clear H1
        replace H := Option.bind_eq_some_iff.mp H
        obtain ⟨⟨t679, t682⟩, A160, H⟩ := H
        replace H : ((mod_Exp.f kj4 l0 l2 l3).bind fun bt683 => ((apostilleref7_Add.f kj4 l1 l2).bind fun t687 => ((mod_Exp.f kj4 l0 t687 l3).bind fun bt690 => ((mod_Mul.f kj4 t679 bt683.1 l3).bind fun bt694 => ((mod_Add.f kj4 l0 l1 l3).bind fun bt698 => ((mod_Sub.f kj4 bt698.1 l1 l3).bind fun bt702 => ((apostilleref8_Rest.f kj4 l0 l3).bind fun bt706 => (if bt694.2 = true then ((apostillelaw8_same.f kj4 bt690.1 bt694.1).bind fun t710 => (if t710 = true then (if bt702.2 = true then ((apostillelaw8_same.f kj4 bt702.1 bt706.1).bind fun t711 => (if t711 = true then ((apostilleref7_Cmp.f kj4 t679 l3).bind fun t712 => (if t712 < 0 then ((apostillelaw8_known.f kj4).bind fun t713 => (some t713)) else (some false))) else (some false))) else (some false)) else (some false))) else (some false))))))))) = some r := H
        have A16 := zm A160
        clear A160
        replace H := Option.bind_eq_some_iff.mp H
        obtain ⟨⟨t683, t686⟩, A170, H⟩ := H
        replace H : ((apostilleref7_Add.f kj4 l1 l2).bind fun t687 => ((mod_Exp.f kj4 l0 t687 l3).bind fun bt690 => ((mod_Mul.f kj4 t679 t683 l3).bind fun bt694 => ((mod_Add.f kj4 l0 l1 l3).bind fun bt698 => ((mod_Sub.f kj4 bt698.1 l1 l3).bind fun bt702 => ((apostilleref8_Rest.f kj4 l0 l3).bind fun bt706 => (if bt694.2 = true then ((apostillelaw8_same.f kj4 bt690.1 bt694.1).bind fun t710 => (if t710 = true then (if bt702.2 = true then ((apostillelaw8_same.f kj4 bt702.1 bt706.1).bind fun t711 => (if t711 = true then ((apostilleref7_Cmp.f kj4 t679 l3).bind fun t712 => (if t712 < 0 then ((apostillelaw8_known.f kj4).bind fun t713 => (some t713)) else (some false))) else (some false))) else (some false)) else (some false))) else (some false)))))))) = some r := H
        have A17 := zm A170
        clear A170
        replace H := Option.bind_eq_some_iff.mp H
        obtain ⟨t687, A180, H⟩ := H
        replace H : ((mod_Exp.f kj4 l0 t687 l3).bind fun bt690 => ((mod_Mul.f kj4 t679 t683 l3).bind fun bt694 => ((mod_Add.f kj4 l0 l1 l3).bind fun bt698 => ((mod_Sub.f kj4 bt698.1 l1 l3).bind fun bt702 => ((apostilleref8_Rest.f kj4 l0 l3).bind fun bt706 => (if bt694.2 = true then ((apostillelaw8_same.f kj4 bt690.1 bt694.1).bind fun t710 => (if t710 = true then (if bt702.2 = true then ((apostillelaw8_same.f kj4 bt702.1 bt706.1).bind fun t711 => (if t711 = true then ((apostilleref7_Cmp.f kj4 t679 l3).bind fun t712 => (if t712 < 0 then ((apostillelaw8_known.f kj4).bind fun t713 => (some t713)) else (some false))) else (some false))) else (some false)) else (some false))) else (some false))))))) = some r := H
        have A18 := zm A180
        clear A180
        replace H := Option.bind_eq_some_iff.mp H
        obtain ⟨⟨t690, t693⟩, A190, H⟩ := H
        replace H : ((mod_Mul.f kj4 t679 t683 l3).bind fun bt694 => ((mod_Add.f kj4 l0 l1 l3).bind fun bt698 => ((mod_Sub.f kj4 bt698.1 l1 l3).bind fun bt702 => ((apostilleref8_Rest.f kj4 l0 l3).bind fun bt706 => (if bt694.2 = true then ((apostillelaw8_same.f kj4 t690 bt694.1).bind fun t710 => (if t710 = true then (if bt702.2 = true then ((apostillelaw8_same.f kj4 bt702.1 bt706.1).bind fun t711 => (if t711 = true then ((apostilleref7_Cmp.f kj4 t679 l3).bind fun t712 => (if t712 < 0 then ((apostillelaw8_known.f kj4).bind fun t713 => (some t713)) else (some false))) else (some false))) else (some false)) else (some false))) else (some false)))))) = some r := H
        have A19 := zm A190
        clear A190
        replace H := Option.bind_eq_some_iff.mp H
        obtain ⟨⟨t694, t697⟩, A200, H⟩ := H
        replace H : ((mod_Add.f kj4 l0 l1 l3).bind fun bt698 => ((mod_Sub.f kj4 bt698.1 l1 l3).bind fun bt702 => ((apostilleref8_Rest.f kj4 l0 l3).bind fun bt706 => (if t697 = true then ((apostillelaw8_same.f kj4 t690 t694).bind fun t710 => (if t710 = true then (if bt702.2 = true then ((apostillelaw8_same.f kj4 bt702.1 bt706.1).bind fun t711 => (if t711 = true then ((apostilleref7_Cmp.f kj4 t679 l3).bind fun t712 => (if t712 < 0 then ((apostillelaw8_known.f kj4).bind fun t713 => (some t713)) else (some false))) else (some false))) else (some false)) else (some false))) else (some false))))) = some r := H
        have A20 := zm A200
        clear A200
        replace H := Option.bind_eq_some_iff.mp H
        obtain ⟨⟨t698, t701⟩, A210, H⟩ := H
        replace H : ((mod_Sub.f kj4 t698 l1 l3).bind fun bt702 => ((apostilleref8_Rest.f kj4 l0 l3).bind fun bt706 => (if t697 = true then ((apostillelaw8_same.f kj4 t690 t694).bind fun t710 => (if t710 = true then (if bt702.2 = true then ((apostillelaw8_same.f kj4 bt702.1 bt706.1).bind fun t711 => (if t711 = true then ((apostilleref7_Cmp.f kj4 t679 l3).bind fun t712 => (if t712 < 0 then ((apostillelaw8_known.f kj4).bind fun t713 => (some t713)) else (some false))) else (some false))) else (some false)) else (some false))) else (some false)))) = some r := H
        have A21 := zm A210
        clear A210
        replace H := Option.bind_eq_some_iff.mp H
        obtain ⟨⟨t702, t705⟩, A220, H⟩ := H
        replace H : ((apostilleref8_Rest.f kj4 l0 l3).bind fun bt706 => (if t697 = true then ((apostillelaw8_same.f kj4 t690 t694).bind fun t710 => (if t710 = true then (if t705 = true then ((apostillelaw8_same.f kj4 t702 bt706.1).bind fun t711 => (if t711 = true then ((apostilleref7_Cmp.f kj4 t679 l3).bind fun t712 => (if t712 < 0 then ((apostillelaw8_known.f kj4).bind fun t713 => (some t713)) else (some false))) else (some false))) else (some false)) else (some false))) else (some false))) = some r := H
        have A22 := zm A220
        clear A220
        replace H := Option.bind_eq_some_iff.mp H
        obtain ⟨⟨t706, t709⟩, A230, H⟩ := H
        replace H : (if t697 = true then ((apostillelaw8_same.f kj4 t690 t694).bind fun t710 => (if t710 = true then (if t705 = true then ((apostillelaw8_same.f kj4 t702 t706).bind fun t711 => (if t711 = true then ((apostilleref7_Cmp.f kj4 t679 l3).bind fun t712 => (if t712 < 0 then ((apostillelaw8_known.f kj4).bind fun t713 => (some t713)) else (some false))) else (some false))) else (some false)) else (some false))) else (some false)) = some r := H
        have A23 := zm A230
        clear A230
        by_cases c24 : t697 = true
        · subst c24
          have H1 : ((apostillelaw8_same.f kj4 t690 t694).bind fun t710 => (if t710 = true then (if t705 = true then ((apostillelaw8_same.f kj4 t702 t706).bind fun t711 => (if t711 = true then ((apostilleref7_Cmp.f kj4 t679 l3).bind fun t712 => (if t712 < 0 then ((apostillelaw8_known.f kj4).bind fun t713 => (some t713)) else (some false))) else (some false))) else (some false)) else (some false))) = some r := by rw [if_pos rfl] at H; exact H
          clear H
          have H := H1
          clear H1
          replace H := Option.bind_eq_some_iff.mp H
          obtain ⟨t710, A250, H⟩ := H
          replace H : (if t710 = true then (if t705 = true then ((apostillelaw8_same.f kj4 t702 t706).bind fun t711 => (if t711 = true then ((apostilleref7_Cmp.f kj4 t679 l3).bind fun t712 => (if t712 < 0 then ((apostillelaw8_known.f kj4).bind fun t713 => (some t713)) else (some false))) else (some false))) else (some false)) else (some false)) = some r := H
          have A25 := zm A250
          clear A250
          by_cases c26 : t710 = true
          · subst c26
            have H1 : (if t705 = true then ((apostillelaw8_same.f kj4 t702 t706).bind fun t711 => (if t711 = true then ((apostilleref7_Cmp.f kj4 t679 l3).bind fun t712 => (if t712 < 0 then ((apostillelaw8_known.f kj4).bind fun t713 => (some t713)) else (some false))) else (some false))) else (some false)) = some r := by rw [if_pos rfl] at H; exact H
            clear H
            have H := H1
            clear H1
            by_cases c27 : t705 = true
            · subst c27
              have H1 : ((apostillelaw8_same.f kj4 t702 t706).bind fun t711 => (if t711 = true then ((apostilleref7_Cmp.f kj4 t679 l3).bind fun t712 => (if t712 < 0 then ((apostillelaw8_known.f kj4).bind fun t713 => (some t713)) else (some false))) else (some false))) = some r := by rw [if_pos rfl] at H; exact H
              clear H
              have H := H1
              clear H1
              replace H := Option.bind_eq_some_iff.mp H
              obtain ⟨t711, A280, H⟩ := H
              replace H : (if t711 = true then ((apostilleref7_Cmp.f kj4 t679 l3).bind fun t712 => (if t712 < 0 then ((apostillelaw8_known.f kj4).bind fun t713 => (some t713)) else (some false))) else (some false)) = some r := H
              have A28 := zm A280
              clear A280
              by_cases c29 : t711 = true
              · subst c29
                have H1 : ((apostilleref7_Cmp.f kj4 t679 l3).bind fun t712 => (if t712 < 0 then ((apostillelaw8_known.f kj4).bind fun t713 => (some t713)) else (some false))) = some r := by rw [if_pos rfl] at H; exact H
                clear H
                have H := H1
                clear H1
                replace H := Option.bind_eq_some_iff.mp H
                obtain ⟨t712, A300, H⟩ := H
                replace H : (if t712 < 0 then ((apostillelaw8_known.f kj4).bind fun t713 => (some t713)) else (some false)) = some r := H
                have A30 := zm A300
                clear A300
                by_cases c31 : t712 < 0
                · rw [if_pos c31] at H
                  have c31b0 : decide (t712 < 0) = true := decide_eq_true c31
                  clear c31
                  replace H := Option.bind_eq_some_iff.mp H
                  obtain ⟨t713, A320, H⟩ := H
                  replace H : (some t713) = some r := H
                  have A32 := zm A320
                  clear A320
                  obtain rfl := Option.some.inj H
                  go_wp2_with (first | ((with_reducible refine gate_callee (f := 9) rfl ?_); refine goesL_ (some 44) rfl rfl Try.func9 (by kernel_rfl) rfl #[.slice A0 l0.length c0, .slice A1 l1.length c1, .slice A3 l3.length c3] rfl (by (try simp only [zl1, zl2, zl3]); first | done | rfl | (simp only [List.length_drop, List.length_take]; rfl)) ?_; (with_reducible refine (mod_Exp.calls kj4 _ _ l0 _ _ l1 _ _ l3 t679 t682 _ ?side1 ?side2 ?side3 ?side4 ?side5 ?side6 A16.out).mono ?_); (case side1 => repeat (first | exact (Kd.C_below HR0.out HB.out) | (with_reducible refine zc1 ?_ _) | (with_reducible refine zc2 ?_ _) | (with_reducible refine zc3 ?_))); (case side2 => exact HC0.out); (case side3 => repeat (first | exact (Kd.C_below HR1.out HB.out) | (with_reducible refine zc1 ?_ _) | (with_reducible refine zc2 ?_ _) | (with_reducible refine zc3 ?_))); (case side4 => exact HC1.out); (case side5 => repeat (first | exact (Kd.C_below HR3.out HB.out) | (with_reducible refine zc1 ?_ _) | (with_reducible refine zc2 ?_ _) | (with_reducible refine zc3 ?_))); (case side6 => exact HC3.out); rintro e w33 ⟨v680, rfl, ho0, hb⟩; refine ⟨_, rfl, ?_⟩; have n0_ := zm (Kd.V_lower (Kd.V_mono (ok' := fun k_ => True) ho0 (fun k_ hk_ => trivial)) (below_size (by repeat (first | (with_reducible first | exact HB.out | apply zb1 | apply zb2 | apply zb3) | exact HB.out)))); have n1_ := zm (below_step (by repeat (first | (with_reducible first | exact HB.out | apply zb1 | apply zb2 | apply zb3) | exact HB.out)) hb); clear HB; have HO681 := n0_; have HB := n1_; clear n0_ n1_; (try clear hb); (try clear hb2); (try clear hk); (try clear hi); (try clear ho0)) | ((with_reducible refine gate_callee (f := 9) rfl ?_); refine goesL_ (some 51) rfl rfl Try.func9 (by kernel_rfl) rfl #[.slice A0 l0.length c0, .slice A2 l2.length c2, .slice A3 l3.length c3] rfl (by (try simp only [zl1, zl2, zl3]); first | done | rfl | (simp only [List.length_drop, List.length_take]; rfl)) ?_; (with_reducible refine (mod_Exp.calls kj4 _ _ l0 _ _ l2 _ _ l3 t683 t686 _ ?side1 ?side2 ?side3 ?side4 ?side5 ?side6 A17.out).mono ?_); (case side1 => repeat (first | exact (Kd.C_below HR0.out HB.out) | (with_reducible refine zc1 ?_ _) | (with_reducible refine zc2 ?_ _) | (with_reducible refine zc3 ?_))); (case side2 => exact HC0.out); (case side3 => repeat (first | exact (Kd.C_below HR2.out HB.out) | (with_reducible refine zc1 ?_ _) | (with_reducible refine zc2 ?_ _) | (with_reducible refine zc3 ?_))); (case side4 => exact HC2.out); (case side5 => repeat (first | exact (Kd.C_below HR3.out HB.out) | (with_reducible refine zc1 ?_ _) | (with_reducible refine zc2 ?_ _) | (with_reducible refine zc3 ?_))); (case side6 => exact HC3.out); rintro e w34 ⟨v684, rfl, ho0, hb⟩; refine ⟨_, rfl, ?_⟩; have n0_ := zm (Kd.V_below (by (with_reducible repeat (first | apply zv1 | apply zv2 | apply zv3)); exact HO681.out) hb); have n1_ := zm (Kd.V_lower (Kd.V_mono (ok' := fun k_ => True) ho0 (fun k_ hk_ => trivial)) (below_size (by repeat (first | (with_reducible first | exact HB.out | apply zb1 | apply zb2 | apply zb3) | exact HB.out)))); have n2_ := zm (below_step (by repeat (first | (with_reducible first | exact HB.out | apply zb1 | apply zb2 | apply zb3) | exact HB.out)) hb); clear HO681; clear HB; have HO681 := n0_; have HO685 := n1_; have HB := n2_; clear n0_ n1_ n2_; (try clear hb); (try clear hb2); (try clear hk); (try clear hi); (try clear ho0)) | ((with_reducible refine gate_callee (f := 22) rfl ?_); refine goesL_ (some 58) rfl rfl Try.func22 (by kernel_rfl) rfl #[.slice A1 l1.length c1, .slice A2 l2.length c2] rfl (by (try simp only [zl1, zl2, zl3]); first | done | rfl | (simp only [List.length_drop, List.length_take]; rfl)) ?_; (with_reducible refine (apostilleref7_Add.calls kj4 _ _ l1 _ _ l2 t687 _ ?side1 ?side2 ?side3 ?side4 A18.out).mono ?_); (case side1 => repeat (first | exact (Kd.C_below HR1.out HB.out) | (with_reducible refine zc1 ?_ _) | (with_reducible refine zc2 ?_ _) | (with_reducible refine zc3 ?_))); (case side2 => exact HC1.out); (case side3 => repeat (first | exact (Kd.C_below HR2.out HB.out) | (with_reducible refine zc1 ?_ _) | (with_reducible refine zc2 ?_ _) | (with_reducible refine zc3 ?_))); (case side4 => exact HC2.out); rintro e w35 ⟨v688, rfl, ho0, hb⟩; refine ⟨_, rfl, ?_⟩; have n0_ := zm (Kd.V_below (by (with_reducible repeat (first | apply zv1 | apply zv2 | apply zv3)); exact HO681.out) hb); have n1_ := zm (Kd.V_below (by (with_reducible repeat (first | apply zv1 | apply zv2 | apply zv3)); exact HO685.out) hb); have n2_ := zm (Kd.V_lower (Kd.V_mono (ok' := fun k_ => True) ho0 (fun k_ hk_ => trivial)) (below_size (by repeat (first | (with_reducible first | exact HB.out | apply zb1 | apply zb2 | apply zb3) | exact HB.out)))); have n3_ := zm (below_step (by repeat (first | (with_reducible first | exact HB.out | apply zb1 | apply zb2 | apply zb3) | exact HB.out)) hb); clear HO681; clear HO685; clear HB; have HO681 := n0_; have HO685 := n1_; have HO689 := n2_; have HB := n3_; clear n0_ n1_ n2_ n3_; (try clear hb); (try clear hb2); (try clear hk); (try clear hi); (try clear ho0); obtain ⟨Ao36, co36, eo36⟩ := Kd.V_slice HO689.out; subst eo36) | ((with_reducible refine gate_callee (f := 9) rfl ?_); refine goesL_ (some 60) rfl rfl Try.func9 (by kernel_rfl) rfl #[.slice A0 l0.length c0, .slice Ao36 t687.length co36, .slice A3 l3.length c3] rfl (by (try simp only [zl1, zl2, zl3]); first | done | rfl | (simp only [List.length_drop, List.length_take]; rfl)) ?_; (with_reducible refine (mod_Exp.calls kj4 _ _ l0 _ _ t687 _ _ l3 t690 t693 _ ?side1 ?side2 ?side3 ?side4 ?side5 ?side6 A19.out).mono ?_); (case side1 => repeat (first | exact (Kd.C_below HR0.out HB.out) | (with_reducible refine zc1 ?_ _) | (with_reducible refine zc2 ?_ _) | (with_reducible refine zc3 ?_))); (case side2 => exact HC0.out); (case side3 => repeat (first | exact (Kd.V_reads' HO689.out).2.2 | (with_reducible refine zc1 ?_ _) | (with_reducible refine zc2 ?_ _) | (with_reducible refine zc3 ?_))); (case side4 => exact (Kd.V_reads' HO689.out).2.1); (case side5 => repeat (first | exact (Kd.C_below HR3.out HB.out) | (with_reducible refine zc1 ?_ _) | (with_reducible refine zc2 ?_ _) | (with_reducible refine zc3 ?_))); (case side6 => exact HC3.out); rintro e w37 ⟨v691, rfl, ho0, hb⟩; refine ⟨_, rfl, ?_⟩; have n0_ := zm (Kd.V_below (by (with_reducible repeat (first | apply zv1 | apply zv2 | apply zv3)); exact HO681.out) hb); have n1_ := zm (Kd.V_below (by (with_reducible repeat (first | apply zv1 | apply zv2 | apply zv3)); exact HO685.out) hb); have n2_ := zm (Kd.V_below (by (with_reducible repeat (first | apply zv1 | apply zv2 | apply zv3)); exact HO689.out) hb); have n3_ := zm (Kd.V_lower (Kd.V_mono (ok' := fun k_ => True) ho0 (fun k_ hk_ => trivial)) (below_size (by repeat (first | (with_reducible first | exact HB.out | apply zb1 | apply zb2 | apply zb3) | exact HB.out)))); have n4_ := zm (below_step (by repeat (first | (with_reducible first | exact HB.out | apply zb1 | apply zb2 | apply zb3) | exact HB.out)) hb); clear HO681; clear HO685; clear HO689; clear HB; have HO681 := n0_; have HO685 := n1_; have HO689 := n2_; have HO692 := n3_; have HB := n4_; clear n0_ n1_ n2_ n3_ n4_; (try clear hb); (try clear hb2); (try clear hk); (try clear hi); (try clear ho0); obtain ⟨Ao38, co38, eo38⟩ := Kd.V_slice HO681.out; subst eo38; obtain ⟨Ao39, co39, eo39⟩ := Kd.V_slice HO685.out; subst eo39) | ((with_reducible refine gate_callee (f := 19) rfl ?_); refine goesL_ (some 67) rfl rfl Try.func19 (by kernel_rfl) rfl #[.slice Ao38 t679.length co38, .slice Ao39 t683.length co39, .slice A3 l3.length c3] rfl (by (try simp only [zl1, zl2, zl3]); first | done | rfl | (simp only [List.length_drop, List.length_take]; rfl)) ?_; (with_reducible refine (mod_Mul.calls kj4 _ _ t679 _ _ t683 _ _ l3 t694 true _ ?side1 ?side2 ?side3 ?side4 ?side5 ?side6 A20.out).mono ?_); (case side1 => repeat (first | exact (Kd.V_reads' HO681.out).2.2 | (with_reducible refine zc1 ?_ _) | (with_reducible refine zc2 ?_ _) | (with_reducible refine zc3 ?_))); (case side2 => exact (Kd.V_reads' HO681.out).2.1); (case side3 => repeat (first | exact (Kd.V_reads' HO685.out).2.2 | (with_reducible refine zc1 ?_ _) | (with_reducible refine zc2 ?_ _) | (with_reducible refine zc3 ?_))); (case side4 => exact (Kd.V_reads' HO685.out).2.1); (case side5 => repeat (first | exact (Kd.C_below HR3.out HB.out) | (with_reducible refine zc1 ?_ _) | (with_reducible refine zc2 ?_ _) | (with_reducible refine zc3 ?_))); (case side6 => exact HC3.out); rintro e w40 ⟨v695, rfl, ho0, hb⟩; refine ⟨_, rfl, ?_⟩; have n0_ := zm (Kd.V_below (by (with_reducible repeat (first | apply zv1 | apply zv2 | apply zv3)); exact HO681.out) hb); have n1_ := zm (Kd.V_below (by (with_reducible repeat (first | apply zv1 | apply zv2 | apply zv3)); exact HO685.out) hb); have n2_ := zm (Kd.V_below (by (with_reducible repeat (first | apply zv1 | apply zv2 | apply zv3)); exact HO689.out) hb); have n3_ := zm (Kd.V_below (by (with_reducible repeat (first | apply zv1 | apply zv2 | apply zv3)); exact HO692.out) hb); have n4_ := zm (Kd.V_lower (Kd.V_mono (ok' := fun k_ => True) ho0 (fun k_ hk_ => trivial)) (below_size (by repeat (first | (with_reducible first | exact HB.out | apply zb1 | apply zb2 | apply zb3) | exact HB.out)))); have n5_ := zm (below_step (by repeat (first | (with_reducible first | exact HB.out | apply zb1 | apply zb2 | apply zb3) | exact HB.out)) hb); clear HO681; clear HO685; clear HO689; clear HO692; clear HB; have HO681 := n0_; have HO685 := n1_; have HO689 := n2_; have HO692 := n3_; have HO696 := n4_; have HB := n5_; clear n0_ n1_ n2_ n3_ n4_ n5_; (try clear hb); (try clear hb2); (try clear hk); (try clear hi); (try clear ho0)) | ((with_reducible refine gate_callee (f := 17) rfl ?_); refine goesL_ (some 74) rfl rfl Try.func17 (by kernel_rfl) rfl #[.slice A0 l0.length c0, .slice A1 l1.length c1, .slice A3 l3.length c3] rfl (by (try simp only [zl1, zl2, zl3]); first | done | rfl | (simp only [List.length_drop, List.length_take]; rfl)) ?_; (with_reducible refine (mod_Add.calls kj4 _ _ l0 _ _ l1 _ _ l3 t698 t701 _ ?side1 ?side2 ?side3 ?side4 ?side5 ?side6 A21.out).mono ?_); (case side1 => repeat (first | exact (Kd.C_below HR0.out HB.out) | (with_reducible refine zc1 ?_ _) | (with_reducible refine zc2 ?_ _) | (with_reducible refine zc3 ?_))); (case side2 => exact HC0.out); (case side3 => repeat (first | exact (Kd.C_below HR1.out HB.out) | (with_reducible refine zc1 ?_ _) | (with_reducible refine zc2 ?_ _) | (with_reducible refine zc3 ?_))); (case side4 => exact HC1.out); (case side5 => repeat (first | exact (Kd.C_below HR3.out HB.out) | (with_reducible refine zc1 ?_ _) | (with_reducible refine zc2 ?_ _) | (with_reducible refine zc3 ?_))); (case side6 => exact HC3.out); rintro e w41 ⟨v699, rfl, ho0, hb⟩; refine ⟨_, rfl, ?_⟩; have n0_ := zm (Kd.V_below (by (with_reducible repeat (first | apply zv1 | apply zv2 | apply zv3)); exact HO681.out) hb); have n1_ := zm (Kd.V_below (by (with_reducible repeat (first | apply zv1 | apply zv2 | apply zv3)); exact HO685.out) hb); have n2_ := zm (Kd.V_below (by (with_reducible repeat (first | apply zv1 | apply zv2 | apply zv3)); exact HO689.out) hb); have n3_ := zm (Kd.V_below (by (with_reducible repeat (first | apply zv1 | apply zv2 | apply zv3)); exact HO692.out) hb); have n4_ := zm (Kd.V_below (by (with_reducible repeat (first | apply zv1 | apply zv2 | apply zv3)); exact HO696.out) hb); have n5_ := zm (Kd.V_lower (Kd.V_mono (ok' := fun k_ => True) ho0 (fun k_ hk_ => trivial)) (below_size (by repeat (first | (with_reducible first | exact HB.out | apply zb1 | apply zb2 | apply zb3) | exact HB.out)))); have n6_ := zm (below_step (by repeat (first | (with_reducible first | exact HB.out | apply zb1 | apply zb2 | apply zb3) | exact HB.out)) hb); clear HO681; clear HO685; clear HO689; clear HO692; clear HO696; clear HB; have HO681 := n0_; have HO685 := n1_; have HO689 := n2_; have HO692 := n3_; have HO696 := n4_; have HO700 := n5_; have HB := n6_; clear n0_ n1_ n2_ n3_ n4_ n5_ n6_; (try clear hb); (try clear hb2); (try clear hk); (try clear hi); (try clear ho0); obtain ⟨Ao42, co42, eo42⟩ := Kd.V_slice HO700.out; subst eo42) | ((with_reducible refine gate_callee (f := 18) rfl ?_); refine goesL_ (some 81) rfl rfl Try.func18 (by kernel_rfl) rfl #[.slice Ao42 t698.length co42, .slice A1 l1.length c1, .slice A3 l3.length c3] rfl (by (try simp only [zl1, zl2, zl3]); first | done | rfl | (simp only [List.length_drop, List.length_take]; rfl)) ?_; (with_reducible refine (mod_Sub.calls kj4 _ _ t698 _ _ l1 _ _ l3 t702 true _ ?side1 ?side2 ?side3 ?side4 ?side5 ?side6 A22.out).mono ?_); (case side1 => repeat (first | exact (Kd.V_reads' HO700.out).2.2 | (with_reducible refine zc1 ?_ _) | (with_reducible refine zc2 ?_ _) | (with_reducible refine zc3 ?_))); (case side2 => exact (Kd.V_reads' HO700.out).2.1); (case side3 => repeat (first | exact (Kd.C_below HR1.out HB.out) | (with_reducible refine zc1 ?_ _) | (with_reducible refine zc2 ?_ _) | (with_reducible refine zc3 ?_))); (case side4 => exact HC1.out); (case side5 => repeat (first | exact (Kd.C_below HR3.out HB.out) | (with_reducible refine zc1 ?_ _) | (with_reducible refine zc2 ?_ _) | (with_reducible refine zc3 ?_))); (case side6 => exact HC3.out); rintro e w43 ⟨v703, rfl, ho0, hb⟩; refine ⟨_, rfl, ?_⟩; have n0_ := zm (Kd.V_below (by (with_reducible repeat (first | apply zv1 | apply zv2 | apply zv3)); exact HO681.out) hb); have n1_ := zm (Kd.V_below (by (with_reducible repeat (first | apply zv1 | apply zv2 | apply zv3)); exact HO685.out) hb); have n2_ := zm (Kd.V_below (by (with_reducible repeat (first | apply zv1 | apply zv2 | apply zv3)); exact HO689.out) hb); have n3_ := zm (Kd.V_below (by (with_reducible repeat (first | apply zv1 | apply zv2 | apply zv3)); exact HO692.out) hb); have n4_ := zm (Kd.V_below (by (with_reducible repeat (first | apply zv1 | apply zv2 | apply zv3)); exact HO696.out) hb); have n5_ := zm (Kd.V_below (by (with_reducible repeat (first | apply zv1 | apply zv2 | apply zv3)); exact HO700.out) hb); have n6_ := zm (Kd.V_lower (Kd.V_mono (ok' := fun k_ => True) ho0 (fun k_ hk_ => trivial)) (below_size (by repeat (first | (with_reducible first | exact HB.out | apply zb1 | apply zb2 | apply zb3) | exact HB.out)))); have n7_ := zm (below_step (by repeat (first | (with_reducible first | exact HB.out | apply zb1 | apply zb2 | apply zb3) | exact HB.out)) hb); clear HO681; clear HO685; clear HO689; clear HO692; clear HO696; clear HO700; clear HB; have HO681 := n0_; have HO685 := n1_; have HO689 := n2_; have HO692 := n3_; have HO696 := n4_; have HO700 := n5_; have HO704 := n6_; have HB := n7_; clear n0_ n1_ n2_ n3_ n4_ n5_ n6_ n7_; (try clear hb); (try clear hb2); (try clear hk); (try clear hi); (try clear ho0)) | ((with_reducible refine gate_callee (f := 23) rfl ?_); refine goesL_ (some 87) rfl rfl Try.func23 (by kernel_rfl) rfl #[.slice A0 l0.length c0, .slice A3 l3.length c3] rfl (by (try simp only [zl1, zl2, zl3]); first | done | rfl | (simp only [List.length_drop, List.length_take]; rfl)) ?_; (with_reducible refine (apostilleref8_Rest.calls kj4 _ _ l0 _ _ l3 t706 t709 _ ?side1 ?side2 ?side3 ?side4 A23.out).mono ?_); (case side1 => repeat (first | exact (Kd.C_below HR0.out HB.out) | (with_reducible refine zc1 ?_ _) | (with_reducible refine zc2 ?_ _) | (with_reducible refine zc3 ?_))); (case side2 => exact HC0.out); (case side3 => repeat (first | exact (Kd.C_below HR3.out HB.out) | (with_reducible refine zc1 ?_ _) | (with_reducible refine zc2 ?_ _) | (with_reducible refine zc3 ?_))); (case side4 => exact HC3.out); rintro e w44 ⟨v707, rfl, ho0, hb⟩; refine ⟨_, rfl, ?_⟩; have n0_ := zm (Kd.V_below (by (with_reducible repeat (first | apply zv1 | apply zv2 | apply zv3)); exact HO681.out) hb); have n1_ := zm (Kd.V_below (by (with_reducible repeat (first | apply zv1 | apply zv2 | apply zv3)); exact HO685.out) hb); have n2_ := zm (Kd.V_below (by (with_reducible repeat (first | apply zv1 | apply zv2 | apply zv3)); exact HO689.out) hb); have n3_ := zm (Kd.V_below (by (with_reducible repeat (first | apply zv1 | apply zv2 | apply zv3)); exact HO692.out) hb); have n4_ := zm (Kd.V_below (by (with_reducible repeat (first | apply zv1 | apply zv2 | apply zv3)); exact HO696.out) hb); have n5_ := zm (Kd.V_below (by (with_reducible repeat (first | apply zv1 | apply zv2 | apply zv3)); exact HO700.out) hb); have n6_ := zm (Kd.V_below (by (with_reducible repeat (first | apply zv1 | apply zv2 | apply zv3)); exact HO704.out) hb); have n7_ := zm (Kd.V_lower (Kd.V_mono (ok' := fun k_ => True) ho0 (fun k_ hk_ => trivial)) (below_size (by repeat (first | (with_reducible first | exact HB.out | apply zb1 | apply zb2 | apply zb3) | exact HB.out)))); have n8_ := zm (below_step (by repeat (first | (with_reducible first | exact HB.out | apply zb1 | apply zb2 | apply zb3) | exact HB.out)) hb); clear HO681; clear HO685; clear HO689; clear HO692; clear HO696; clear HO700; clear HO704; clear HB; have HO681 := n0_; have HO685 := n1_; have HO689 := n2_; have HO692 := n3_; have HO696 := n4_; have HO700 := n5_; have HO704 := n6_; have HO708 := n7_; have HB := n8_; clear n0_ n1_ n2_ n3_ n4_ n5_ n6_ n7_ n8_; (try clear hb); (try clear hb2); (try clear hk); (try clear hi); (try clear ho0); obtain ⟨Ao45, co45, eo45⟩ := Kd.V_slice HO692.out; subst eo45; obtain ⟨Ao46, co46, eo46⟩ := Kd.V_slice HO696.out; subst eo46) | (go_at_call 11; (with_reducible refine (apostillelaw8_same.calls kj4 _ _ t690 _ _ t694 true _ ?side1 ?side2 ?side3 ?side4 A25.out).mono ?_); (case side1 => repeat (first | exact (Kd.V_reads' HO692.out).2.2 | (with_reducible refine zc1 ?_ _) | (with_reducible refine zc2 ?_ _) | (with_reducible refine zc3 ?_))); (case side2 => exact (Kd.V_reads' HO692.out).2.1); (case side3 => repeat (first | exact (Kd.V_reads' HO696.out).2.2 | (with_reducible refine zc1 ?_ _) | (with_reducible refine zc2 ?_ _) | (with_reducible refine zc3 ?_))); (case side4 => exact (Kd.V_reads' HO696.out).2.1); rintro e w' ⟨rfl, ⟨nd, rfl⟩⟩; (try clear A25); obtain ⟨Ao47, co47, eo47⟩ := Kd.V_slice HO704.out; subst eo47; obtain ⟨Ao48, co48, eo48⟩ := Kd.V_slice HO708.out; subst eo48) | (go_at_call 11; (with_reducible refine (apostillelaw8_same.calls kj4 _ _ t702 _ _ t706 true _ ?side1 ?side2 ?side3 ?side4 A28.out).mono ?_); (case side1 => repeat (first | exact (Kd.V_reads' HO704.out).2.2 | (with_reducible refine zc1 ?_ _) | (with_reducible refine zc2 ?_ _) | (with_reducible refine zc3 ?_))); (case side2 => exact (Kd.V_reads' HO704.out).2.1); (case side3 => repeat (first | exact (Kd.V_reads' HO708.out).2.2 | (with_reducible refine zc1 ?_ _) | (with_reducible refine zc2 ?_ _) | (with_reducible refine zc3 ?_))); (case side4 => exact (Kd.V_reads' HO708.out).2.1); rintro e w' ⟨rfl, ⟨nd, rfl⟩⟩; (try clear A28)) | (go_at_call 16; (with_reducible refine (apostilleref7_Cmp.calls kj4 _ _ t679 _ _ l3 t712 _ ?side1 ?side2 ?side3 ?side4 A30.out).mono ?_); (case side1 => repeat (first | exact (Kd.V_reads' HO681.out).2.2 | (with_reducible refine zc1 ?_ _) | (with_reducible refine zc2 ?_ _) | (with_reducible refine zc3 ?_))); (case side2 => exact (Kd.V_reads' HO681.out).2.1); (case side3 => repeat (first | exact (Kd.C_below HR3.out (by repeat (first | (with_reducible first | exact HB.out | apply zb1 | apply zb2 | apply zb3) | exact HB.out))) | (with_reducible refine zc1 ?_ _) | (with_reducible refine zc2 ?_ _) | (with_reducible refine zc3 ?_))); (case side4 => exact HC3.out); rintro e w' ⟨rfl, ⟨nd, rfl⟩⟩; (try clear A30)) | (go_at_call 12; (with_reducible refine (apostillelaw8_known.calls kj4  t713 _ A32.out).mono ?_); rintro e w49 ⟨rfl, hb⟩; have n0_ := zm (Kd.V_below (by (with_reducible repeat (first | apply zv1 | apply zv2 | apply zv3)); exact HO681.out) hb); have n1_ := zm (Kd.V_below (by (with_reducible repeat (first | apply zv1 | apply zv2 | apply zv3)); exact HO685.out) hb); have n2_ := zm (Kd.V_below (by (with_reducible repeat (first | apply zv1 | apply zv2 | apply zv3)); exact HO689.out) hb); have n3_ := zm (Kd.V_below (by (with_reducible repeat (first | apply zv1 | apply zv2 | apply zv3)); exact HO692.out) hb); have n4_ := zm (Kd.V_below (by (with_reducible repeat (first | apply zv1 | apply zv2 | apply zv3)); exact HO696.out) hb); have n5_ := zm (Kd.V_below (by (with_reducible repeat (first | apply zv1 | apply zv2 | apply zv3)); exact HO700.out) hb); have n6_ := zm (Kd.V_below (by (with_reducible repeat (first | apply zv1 | apply zv2 | apply zv3)); exact HO704.out) hb); have n7_ := zm (Kd.V_below (by (with_reducible repeat (first | apply zv1 | apply zv2 | apply zv3)); exact HO708.out) hb); have n8_ := zm (below_step (by repeat (first | (with_reducible first | exact HB.out | apply zb1 | apply zb2 | apply zb3) | exact HB.out)) hb); clear HO681; clear HO685; clear HO689; clear HO692; clear HO696; clear HO700; clear HO704; clear HO708; clear HB; have HO681 := n0_; have HO685 := n1_; have HO689 := n2_; have HO692 := n3_; have HO696 := n4_; have HO700 := n5_; have HO704 := n6_; have HO708 := n7_; have HB := n8_; clear n0_ n1_ n2_ n3_ n4_ n5_ n6_ n7_ n8_; (try clear hb); (try clear hb2); (try clear hk); (try clear hi); (try clear A32)))
                  go_ret
                  exact ⟨by first | rfl | (simp [errW_none, errW_some] <;> rfl) | (simp [*, errW_none, errW_some] <;> rfl), by repeat (first | (with_reducible first | exact HB.out | apply zb1 | apply zb2 | apply zb3) | exact HB.out)⟩
                · rw [if_neg c31] at H
                  have c31b0 : decide (t712 < 0) = false := decide_eq_false c31
                  clear c31
                  exact absurd (Option.some.inj H) (by rw [hrT]; decide)
              · replace c29 := Bool.eq_false_iff.mpr c29
                subst c29
                have H1 : (some false) = some r := by rw [if_neg (show ¬ (false = true) by decide)] at H; exact H
                clear H
                have H := H1
                clear H1
                exact absurd (Option.some.inj H) (by rw [hrT]; decide)
            · replace c27 := Bool.eq_false_iff.mpr c27
              subst c27
              have H1 : (some false) = some r := by rw [if_neg (show ¬ (false = true) by decide)] at H; exact H
              clear H
              have H := H1
              clear H1
              exact absurd (Option.some.inj H) (by rw [hrT]; decide)
          · replace c26 := Bool.eq_false_iff.mpr c26
            subst c26
            have H1 : (some false) = some r := by rw [if_neg (show ¬ (false = true) by decide)] at H; exact H
            clear H
            have H := H1
            clear H1
            exact absurd (Option.some.inj H) (by rw [hrT]; decide)
        · replace c24 := Bool.eq_false_iff.mpr c24
          subst c24
          have H1 : (some false) = some r := by rw [if_neg (show ¬ (false = true) by decide)] at H; exact H
          clear H
          have H := H1
          clear H1
          exact absurd (Option.some.inj H) (by rw [hrT]; decide)

/-- THE ONE PURE STATEMENT of apostillelaw8_ModLaws: yours. -/
def apostillelaw8_ModLaws.Pure : Prop := ∀ (l0 : List Int) (l1 : List Int) (l2 : List Int) (l3 : List Int), l0.length ≤ maxLen → l0.length * 4 ≤ 140737488351232 → (∀ x ∈ l0, (Lit.int .u32 x).wf = true) → l1.length ≤ maxLen → l1.length * 4 ≤ 140737488351232 → (∀ x ∈ l1, (Lit.int .u32 x).wf = true) → l2.length ≤ maxLen → l2.length * 4 ≤ 140737488351232 → (∀ x ∈ l2, (Lit.int .u32 x).wf = true) → l3.length ≤ maxLen → l3.length * 4 ≤ 140737488351232 → (∀ x ∈ l3, (Lit.int .u32 x).wf = true) → ∃ k, apostillelaw8_ModLaws.f k l0 l1 l2 l3 = some true
theorem apostillelaw8_ModLaws.walk (P : apostillelaw8_ModLaws.Pure) (a0 : Option Addr) (len0 cap0 : Nat) (z0 : List Int) (a1 : Option Addr) (len1 cap1 : Nat) (z1 : List Int) (a2 : Option Addr) (len2 cap2 : Nat) (z2 : List Int) (a3 : Option Addr) (len3 cap3 : Nat) (z3 : List Int) (w : World) (w0 : (a0 = none ∧ len0 = 0 ∧ cap0 = 0 ∧ z0 = []) ∨ ∃ x, a0 = some x ∧ len0 ≤ cap0 ∧ cap0 ≤ maxLen ∧ z0.length = cap0 ∧ (∀ i, i < z0.length → w.cell? (x.add i) = some (.int .u32 (z0.getD i 0))) ∧ ∀ n ∈ z0, (Lit.int .u32 n).wf = true) (y0 : len0 * 4 ≤ 140737488351232) (w1 : (a1 = none ∧ len1 = 0 ∧ cap1 = 0 ∧ z1 = []) ∨ ∃ x, a1 = some x ∧ len1 ≤ cap1 ∧ cap1 ≤ maxLen ∧ z1.length = cap1 ∧ (∀ i, i < z1.length → w.cell? (x.add i) = some (.int .u32 (z1.getD i 0))) ∧ ∀ n ∈ z1, (Lit.int .u32 n).wf = true) (y1 : len1 * 4 ≤ 140737488351232) (w2 : (a2 = none ∧ len2 = 0 ∧ cap2 = 0 ∧ z2 = []) ∨ ∃ x, a2 = some x ∧ len2 ≤ cap2 ∧ cap2 ≤ maxLen ∧ z2.length = cap2 ∧ (∀ i, i < z2.length → w.cell? (x.add i) = some (.int .u32 (z2.getD i 0))) ∧ ∀ n ∈ z2, (Lit.int .u32 n).wf = true) (y2 : len2 * 4 ≤ 140737488351232) (w3 : (a3 = none ∧ len3 = 0 ∧ cap3 = 0 ∧ z3 = []) ∨ ∃ x, a3 = some x ∧ len3 ≤ cap3 ∧ cap3 ≤ maxLen ∧ z3.length = cap3 ∧ (∀ i, i < z3.length → w.cell? (x.add i) = some (.int .u32 (z3.getD i 0))) ∧ ∀ n ∈ z3, (Lit.int .u32 n).wf = true) (y3 : len3 * 4 ≤ 140737488351232) :
    Calls Try.prog 6 #[.slice a0 len0 cap0, .slice a1 len1 cap1, .slice a2 len2 cap2, .slice a3 len3 cap3] w fun e w' => e = .returned (.bool true) ∧ Below w.heap.size w w' := by
  obtain ⟨l0, rfl, hr0, hm0, hw0, hc0⟩ := ReadsInt.ofRowC w0
  obtain ⟨l1, rfl, hr1, hm1, hw1, hc1⟩ := ReadsInt.ofRowC w1
  obtain ⟨l2, rfl, hr2, hm2, hw2, hc2⟩ := ReadsInt.ofRowC w2
  obtain ⟨l3, rfl, hr3, hm3, hw3, hc3⟩ := ReadsInt.ofRowC w3
  obtain ⟨k, h⟩ := P l0 l1 l2 l3 hm0 y0 hw0 hm1 y1 hw1 hm2 y2 hw2 hm3 y3 hw3
  refine (apostillelaw8_ModLaws.calls k _ _ l0 _ _ l1 _ _ l2 _ _ l3 true w (Kd.C_of_reads (d := (0 : Int)) (h1 := fun _ => rfl) hr0) hc0 (Kd.C_of_reads (d := (0 : Int)) (h1 := fun _ => rfl) hr1) hc1 (Kd.C_of_reads (d := (0 : Int)) (h1 := fun _ => rfl) hr2) hc2 (Kd.C_of_reads (d := (0 : Int)) (h1 := fun _ => rfl) hr3) hc3 rfl h).mono ?_
  rintro e w' ⟨rfl, hd⟩
  exact ⟨rfl, hd⟩

end Go.Proofs.Ytgdkbfipjeinjaa.A
