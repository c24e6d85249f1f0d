-- a text of this claim
import Derived.Test.YtgdkbfipjeinjaaAx10
import Derived.Test.YtgdkbfipjeinjaaAx14
import Derived.Test.YtgdkbfipjeinjaaAx15
import Derived.Test.YtgdkbfipjeinjaaAx16
import Derived.Test.YtgdkbfipjeinjaaAx0
namespace Go.Proofs.Ytgdkbfipjeinjaa.A
open Go.RowKit Go.Proofs.YtgdkbfipjeinjaaW.PrintWords Go.Proofs.YtgdkbfipjeinjaaW.PrintLast Go.Proofs.YtgdkbfipjeinjaaW.PrintMore
attribute [local go_sem] max2_int min2_int max_two min_two max_three min_three max_four min_four   -- for this text's walks alone
set_option linter.unusedVariables false
set_option linter.unusedSimpArgs false

/-! ### apostilleref8_Sub: function 21 -/
def apostilleref8_Sub.j0 : Nat → List Int → List Int → List Int → Bool → Option (List Int × Bool)
  | 0, _, _, _, _ => none
  | k + 1, x2, x8, x10, x31 => if x31 = true then (some (([] : List Int), false)) else ((apostilleref7_Sub.f k x8 x10).bind fun bt572 => (if bt572.2 = true then (some (bt572.1, true)) else ((apostilleref7_Add.f k x8 x2).bind fun t576 => ((apostilleref7_Sub.f k t576 x10).bind fun bt579 => (some (bt579.1, true))))))
def apostilleref8_Sub.f (k : Nat) (l0 : List Int) (l1 : List Int) (l2 : List Int) : Option (List Int × Bool) := (apostilleref8_Rest.f k l0 l2).bind fun bt564 => ((apostilleref8_Rest.f k l1 l2).bind fun bt568 => (if bt564.2 = true then (apostilleref8_Sub.j0 k l2 bt564.1 bt568.1 (!bt568.2)) else (apostilleref8_Sub.j0 k l2 bt564.1 bt568.1 true)))
set_option maxHeartbeats 8000000 in
set_option maxRecDepth 100000 in
theorem apostilleref8_Sub.calls (k : Nat) (A0 : Option Addr) (c0 : Nat) (l0 : List Int) (A1 : Option Addr) (c1 : Nat) (l1 : List Int) (A2 : Option Addr) (c2 : Nat) (l2 : List Int) (r1 : List Int) (r2 : Bool) (w : World) (hr0 : Kd.C (Kd.int .u32) w A0 l0.length l0) (hc0 : l0.length ≤ c0) (hr1 : Kd.C (Kd.int .u32) w A1 l1.length l1) (hc1 : l1.length ≤ c1) (hr2 : Kd.C (Kd.int .u32) w A2 l2.length l2) (hc2 : l2.length ≤ c2) (h : apostilleref8_Sub.f k l0 l1 l2 = some (r1, r2)) :
    Calls Try.prog 21 #[.slice A0 l0.length c0, .slice A1 l1.length c1, .slice A2 l2.length c2] w fun e w' => ∃ v0_ : Value, e = .returned (.tuple #[v0_, .bool r2]) ∧ Kd.V (Kd.int .u32) 31 w' w.heap.size (fun k_ => (w.heap.size ≤ k_)) v0_ r1 ∧ Below w.heap.size w w' := by
  have HR0 := zm hr0
  have HC0 := zm hc0
  clear hr0 hc0
  have HR1 := zm hr1
  have HC1 := zm hc1
  clear hr1 hc1
  have HR2 := zm hr2
  have HC2 := zm hc2
  clear hr2 hc2
  have HB := zm (Below.refl w.heap.size w)
  have H : ((apostilleref8_Rest.f k l0 l2).bind fun bt564 => ((apostilleref8_Rest.f k l1 l2).bind fun bt568 => (if bt564.2 = true then (apostilleref8_Sub.j0 k l2 bt564.1 bt568.1 (!bt568.2)) else (apostilleref8_Sub.j0 k l2 bt564.1 bt568.1 true)))) = some (r1, r2) := h
  clear h
  replace H := Option.bind_eq_some_iff.mp H
  obtain ⟨⟨t564, t567⟩, A40, H⟩ := H
  replace H : ((apostilleref8_Rest.f k l1 l2).bind fun bt568 => (if t567 = true then (apostilleref8_Sub.j0 k l2 t564 bt568.1 (!bt568.2)) else (apostilleref8_Sub.j0 k l2 t564 bt568.1 true))) = some (r1, r2) := H
  have A4 := zm A40
  clear A40
  replace H := Option.bind_eq_some_iff.mp H
  obtain ⟨⟨t568, t571⟩, A50, H⟩ := H
  replace H : (if t567 = true then (apostilleref8_Sub.j0 k l2 t564 t568 (!t571)) else (apostilleref8_Sub.j0 k l2 t564 t568 true)) = some (r1, r2) := H
  have A5 := zm A50
  clear A50
  have HC6 := zm H
  clear H
  go_enter Try.func21, Try.ntmps21
  go_upto_region 3 with (first | ((with_reducible refine gate_callee (f := 23) rfl ?_); refine goesL_ (some 17) rfl rfl Try.func23 (by kernel_rfl) rfl #[.slice A0 l0.length c0, .slice A2 l2.length c2] rfl (by (try simp only [zl1, zl2, zl3]); first | done | rfl | (simp only [List.length_drop, List.length_take]; rfl)) ?_; (with_reducible refine (apostilleref8_Rest.calls k _ _ l0 _ _ l2 t564 t567 _ ?side1 ?side2 ?side3 ?side4 A4.out).mono ?_); (case side1 => repeat (first | exact HR0.out | (with_reducible refine zc1 ?_ _) | (with_reducible refine zc2 ?_ _) | (with_reducible refine zc3 ?_))); (case side2 => exact HC0.out); (case side3 => repeat (first | exact HR2.out | (with_reducible refine zc1 ?_ _) | (with_reducible refine zc2 ?_ _) | (with_reducible refine zc3 ?_))); (case side4 => exact HC2.out); rintro e w7 ⟨v565, rfl, ho0, hb⟩; refine ⟨_, rfl, ?_⟩; have n0_ := zm (Kd.V_lower (Kd.V_mono (ok' := fun k_ => (w.heap.size ≤ k_)) ho0 (fun k_ hk_ => (Nat.le_trans (below_size (by repeat (first | (with_reducible first | exact HB.out | apply zb1 | apply zb2 | apply zb3) | exact HB.out))) hk_))) (below_size (by repeat (first | (with_reducible first | exact HB.out | apply zb1 | apply zb2 | apply zb3) | exact HB.out)))); have n1_ := zm (below_step (by repeat (first | (with_reducible first | exact HB.out | apply zb1 | apply zb2 | apply zb3) | exact HB.out)) hb); clear HB; have HO566 := n0_; have HB := n1_; clear n0_ n1_; (try clear hb); (try clear hb2); (try clear hk); (try clear hi); (try clear ho0)) | ((with_reducible refine gate_callee (f := 23) rfl ?_); refine goesL_ (some 23) rfl rfl Try.func23 (by kernel_rfl) rfl #[.slice A1 l1.length c1, .slice A2 l2.length c2] rfl (by (try simp only [zl1, zl2, zl3]); first | done | rfl | (simp only [List.length_drop, List.length_take]; rfl)) ?_; (with_reducible refine (apostilleref8_Rest.calls k _ _ l1 _ _ l2 t568 t571 _ ?side1 ?side2 ?side3 ?side4 A5.out).mono ?_); (case side1 => repeat (first | exact (Kd.C_below HR1.out HB.out) | (with_reducible refine zc1 ?_ _) | (with_reducible refine zc2 ?_ _) | (with_reducible refine zc3 ?_))); (case side2 => exact HC1.out); (case side3 => repeat (first | exact (Kd.C_below HR2.out HB.out) | (with_reducible refine zc1 ?_ _) | (with_reducible refine zc2 ?_ _) | (with_reducible refine zc3 ?_))); (case side4 => exact HC2.out); rintro e w8 ⟨v569, rfl, ho0, hb⟩; refine ⟨_, rfl, ?_⟩; have n0_ := zm (Kd.V_below (by (with_reducible repeat (first | apply zv1 | apply zv2 | apply zv3)); exact HO566.out) hb); have n1_ := zm (Kd.V_lower (Kd.V_mono (ok' := fun k_ => (w.heap.size ≤ k_)) ho0 (fun k_ hk_ => (Nat.le_trans (below_size (by repeat (first | (with_reducible first | exact HB.out | apply zb1 | apply zb2 | apply zb3) | exact HB.out))) hk_))) (below_size (by repeat (first | (with_reducible first | exact HB.out | apply zb1 | apply zb2 | apply zb3) | exact HB.out)))); have n2_ := zm (below_step (by repeat (first | (with_reducible first | exact HB.out | apply zb1 | apply zb2 | apply zb3) | exact HB.out)) hb); clear HO566; clear HB; have HO566 := n0_; have HO570 := n1_; have HB := n2_; clear n0_ n1_ n2_; (try clear hb); (try clear hb2); (try clear hk); (try clear hi); (try clear ho0)))
  (try simp only [Act.put, List.setIfInBounds_toArray, List.set_cons_zero, List.set_cons_succ])
  go_cut [31] (fun v31 wc => ∃ (kq : Nat) (x31_5 : Bool), v31 = .bool x31_5 ∧ Aside0 (apostilleref8_Sub.j0 kq l2 t564 t568 x31_5 = some (r1, r2)) ∧ Aside0 (kq ≤ k) ∧ Aside0 (Kd.V (Kd.int .u32) 31 wc w.heap.size (fun k_ => (w.heap.size ≤ k_)) v565 t564) ∧ Aside0 (Kd.V (Kd.int .u32) 31 wc w.heap.size (fun k_ => (w.heap.size ≤ k_)) v569 t568) ∧ Aside0 (Below w.heap.size w wc))
  case first =>
    have H := HC6.out
    clear HC6
    by_cases c9 : t567 = true
    · subst c9
      have H1 : (apostilleref8_Sub.j0 k l2 t564 t568 (!t571)) = some (r1, r2) := by rw [if_pos rfl] at H; exact H
      clear H
      have H := H1
      clear H1
      have H' := zm H
      clear H
      go_wp2
      go_meet
      case rel => exact ⟨_, (!t571), (by first | rfl | (simp; done) | (simp [*]; done)), H', ⟨by first | omega | exact Nat.le_refl _⟩, ⟨by (with_reducible repeat (first | apply zv1 | apply zv2 | apply zv3)); (first | exact HO566.out | exact Kd.V_mono HO566.out (fun k_ h_ => h_.1))⟩, ⟨by (with_reducible repeat (first | apply zv1 | apply zv2 | apply zv3)); (first | exact HO570.out | exact Kd.V_mono HO570.out (fun k_ h_ => h_.1))⟩, ⟨by repeat (first | (with_reducible first | exact HB.out | apply zb1 | apply zb2 | apply zb3) | exact HB.out)⟩⟩
    · replace c9 := Bool.eq_false_iff.mpr c9
      subst c9
      have H1 : (apostilleref8_Sub.j0 k l2 t564 t568 true) = some (r1, r2) := by rw [if_neg (show ¬ (false = true) by decide)] at H; exact H
      clear H
      have H := H1
      clear H1
      have H' := zm H
      clear H
      go_wp2
      go_meet
      case rel => exact ⟨_, (true), (by first | rfl | (simp; done) | (simp [*]; done)), H', ⟨by first | omega | exact Nat.le_refl _⟩, ⟨by (with_reducible repeat (first | apply zv1 | apply zv2 | apply zv3)); (first | exact HO566.out | exact Kd.V_mono HO566.out (fun k_ h_ => h_.1))⟩, ⟨by (with_reducible repeat (first | apply zv1 | apply zv2 | apply zv3)); (first | exact HO570.out | exact Kd.V_mono HO570.out (fun k_ h_ => h_.1))⟩, ⟨by repeat (first | (with_reducible first | exact HB.out | apply zb1 | apply zb2 | apply zb3) | exact HB.out)⟩⟩
  case rest =>
    clear HC6
    try clear c1
    try clear c2
    try clear p2
    try clear c9
    obtain ⟨kq, x31_5, rfl, HA, HJ5, HO_8, HO_10, HB⟩ := hcut
    cases kq with
    | zero => exact absurd HA.out (by simp [apostilleref8_Sub.j0])
    | succ kj5 =>
      have H := HA.out
      clear HA
      simp only [apostilleref8_Sub.j0] at H
      by_cases c10 : x31_5 = true
      · subst c10
        have H1 : (some (([] : List Int), false)) = some (r1, r2) := by rw [if_pos rfl] at H; exact H
        clear H
        have H := H1
        clear H1
        simp only [Option.some.injEq, Prod.mk.injEq] at H
        obtain ⟨rfl, rfl⟩ := H
        go_wp2
        go_ret2
        exact ⟨_, by first | rfl | (simp [errW_none, errW_some] <;> rfl) | (simp [*, errW_none, errW_some] <;> rfl), (Kd.V_nil _ _ _ _ _), by repeat (first | (with_reducible first | exact HB.out | apply zb1 | apply zb2 | apply zb3) | exact HB.out)⟩
      · replace c10 := Bool.eq_false_iff.mpr c10
        subst c10
        have H1 : ((apostilleref7_Sub.f kj5 t564 t568).bind fun bt572 => (if bt572.2 = true then (some (bt572.1, true)) else ((apostilleref7_Add.f kj5 t564 l2).bind fun t576 => ((apostilleref7_Sub.f kj5 t576 t568).bind fun bt579 => (some (bt579.1, true)))))) = some (r1, r2) := by rw [if_neg (show ¬ (false = true) by decide)] at H; exact H
        clear H
        have H := H1
        clear H1
        replace H := Option.bind_eq_some_iff.mp H
        obtain ⟨⟨t572, t575⟩, A110, H⟩ := H
        replace H : (if t575 = true then (some (t572, true)) else ((apostilleref7_Add.f kj5 t564 l2).bind fun t576 => ((apostilleref7_Sub.f kj5 t576 t568).bind fun bt579 => (some (bt579.1, true))))) = some (r1, r2) := H
        have A11 := zm A110
        clear A110
        by_cases c12 : t575 = true
        · subst c12
          have H1 : (some (t572, true)) = some (r1, r2) := by rw [if_pos rfl] at H; exact H
          clear H
          have H := H1
          clear H1
          simp only [Option.some.injEq, Prod.mk.injEq] at H
          obtain ⟨rfl, rfl⟩ := H
          obtain ⟨Ao13, co13, eo13⟩ := Kd.V_slice HO_8.out
          subst eo13
          obtain ⟨Ao14, co14, eo14⟩ := Kd.V_slice HO_10.out
          subst eo14
          go_wp2_with (first | ((with_reducible refine gate_callee (f := 35) rfl ?_); refine goesL_ (some 35) rfl rfl Try.func35 (by kernel_rfl) rfl #[.slice Ao13 t564.length co13, .slice Ao14 t568.length co14] rfl (by (try simp only [zl1, zl2, zl3]); first | done | rfl | (simp only [List.length_drop, List.length_take]; rfl)) ?_; (with_reducible refine (apostilleref7_Sub.calls kj5 _ _ t564 _ _ t568 t572 true _ ?side1 ?side2 ?side3 ?side4 A11.out).mono ?_); (case side1 => repeat (first | exact (Kd.V_reads' HO_8.out).2.2 | (with_reducible refine zc1 ?_ _) | (with_reducible refine zc2 ?_ _) | (with_reducible refine zc3 ?_))); (case side2 => exact (Kd.V_reads' HO_8.out).2.1); (case side3 => repeat (first | exact (Kd.V_reads' HO_10.out).2.2 | (with_reducible refine zc1 ?_ _) | (with_reducible refine zc2 ?_ _) | (with_reducible refine zc3 ?_))); (case side4 => exact (Kd.V_reads' HO_10.out).2.1); rintro e w15 ⟨v573, rfl, ho0, hb⟩; refine ⟨_, rfl, ?_⟩; have n0_ := zm (Kd.V_below (by (with_reducible repeat (first | apply zv1 | apply zv2 | apply zv3)); exact HO_8.out) hb); have n1_ := zm (Kd.V_below (by (with_reducible repeat (first | apply zv1 | apply zv2 | apply zv3)); exact HO_10.out) hb); have n2_ := zm (Kd.V_lower (Kd.V_mono (ok' := fun k_ => (w.heap.size ≤ k_)) ho0 (fun k_ hk_ => (Nat.le_trans (below_size (by repeat (first | (with_reducible first | exact HB.out | apply zb1 | apply zb2 | apply zb3) | exact HB.out))) hk_))) (below_size (by repeat (first | (with_reducible first | exact HB.out | apply zb1 | apply zb2 | apply zb3) | exact HB.out)))); have n3_ := zm (below_step (by repeat (first | (with_reducible first | exact HB.out | apply zb1 | apply zb2 | apply zb3) | exact HB.out)) hb); clear HO_8; clear HO_10; clear HB; have HO_8 := n0_; have HO_10 := n1_; have HO574 := n2_; have HB := n3_; clear n0_ n1_ n2_ n3_; (try clear hb); (try clear hb2); (try clear hk); (try clear hi); (try clear ho0)))
          go_ret2
          exact ⟨_, by first | rfl | (simp [errW_none, errW_some] <;> rfl) | (simp [*, errW_none, errW_some] <;> rfl), by (with_reducible repeat (first | apply zv1 | apply zv2 | apply zv3)); exact HO574.out, by repeat (first | (with_reducible first | exact HB.out | apply zb1 | apply zb2 | apply zb3) | exact HB.out)⟩
        · replace c12 := Bool.eq_false_iff.mpr c12
          subst c12
          have H1 : ((apostilleref7_Add.f kj5 t564 l2).bind fun t576 => ((apostilleref7_Sub.f kj5 t576 t568).bind fun bt579 => (some (bt579.1, true)))) = some (r1, r2) := by rw [if_neg (show ¬ (false = true) by decide)] at H; exact H
          clear H
          have H := H1
          clear H1
          replace H := Option.bind_eq_some_iff.mp H
          obtain ⟨t576, A160, H⟩ := H
          replace H : ((apostilleref7_Sub.f kj5 t576 t568).bind fun bt579 => (some (bt579.1, true))) = some (r1, r2) := H
          have A16 := zm A160
          clear A160
          replace H := Option.bind_eq_some_iff.mp H
          obtain ⟨⟨t579, t582⟩, A170, H⟩ := H
          replace H : (some (t579, true)) = some (r1, r2) := H
          have A17 := zm A170
          clear A170
          simp only [Option.some.injEq, Prod.mk.injEq] at H
          obtain ⟨rfl, rfl⟩ := H
          obtain ⟨Ao18, co18, eo18⟩ := Kd.V_slice HO_8.out
          subst eo18
          obtain ⟨Ao19, co19, eo19⟩ := Kd.V_slice HO_10.out
          subst eo19
          go_wp2_with (first | ((with_reducible refine gate_callee (f := 35) rfl ?_); refine goesL_ (some 35) rfl rfl Try.func35 (by kernel_rfl) rfl #[.slice Ao18 t564.length co18, .slice Ao19 t568.length co19] rfl (by (try simp only [zl1, zl2, zl3]); first | done | rfl | (simp only [List.length_drop, List.length_take]; rfl)) ?_; (with_reducible refine (apostilleref7_Sub.calls kj5 _ _ t564 _ _ t568 t572 false _ ?side1 ?side2 ?side3 ?side4 A11.out).mono ?_); (case side1 => repeat (first | exact (Kd.V_reads' HO_8.out).2.2 | (with_reducible refine zc1 ?_ _) | (with_reducible refine zc2 ?_ _) | (with_reducible refine zc3 ?_))); (case side2 => exact (Kd.V_reads' HO_8.out).2.1); (case side3 => repeat (first | exact (Kd.V_reads' HO_10.out).2.2 | (with_reducible refine zc1 ?_ _) | (with_reducible refine zc2 ?_ _) | (with_reducible refine zc3 ?_))); (case side4 => exact (Kd.V_reads' HO_10.out).2.1); rintro e w20 ⟨v573, rfl, ho0, hb⟩; refine ⟨_, rfl, ?_⟩; have n0_ := zm (Kd.V_below (by (with_reducible repeat (first | apply zv1 | apply zv2 | apply zv3)); exact HO_8.out) hb); have n1_ := zm (Kd.V_below (by (with_reducible repeat (first | apply zv1 | apply zv2 | apply zv3)); exact HO_10.out) hb); have n2_ := zm (Kd.V_lower (Kd.V_mono (ok' := fun k_ => (w.heap.size ≤ k_)) ho0 (fun k_ hk_ => (Nat.le_trans (below_size (by repeat (first | (with_reducible first | exact HB.out | apply zb1 | apply zb2 | apply zb3) | exact HB.out))) hk_))) (below_size (by repeat (first | (with_reducible first | exact HB.out | apply zb1 | apply zb2 | apply zb3) | exact HB.out)))); have n3_ := zm (below_step (by repeat (first | (with_reducible first | exact HB.out | apply zb1 | apply zb2 | apply zb3) | exact HB.out)) hb); clear HO_8; clear HO_10; clear HB; have HO_8 := n0_; have HO_10 := n1_; have HO574 := n2_; have HB := n3_; clear n0_ n1_ n2_ n3_; (try clear hb); (try clear hb2); (try clear hk); (try clear hi); (try clear ho0)) | ((with_reducible refine gate_callee (f := 22) rfl ?_); refine goesL_ (some 43) rfl rfl Try.func22 (by kernel_rfl) rfl #[.slice Ao18 t564.length co18, .slice A2 l2.length c2] rfl (by (try simp only [zl1, zl2, zl3]); first | done | rfl | (simp only [List.length_drop, List.length_take]; rfl)) ?_; (with_reducible refine (apostilleref7_Add.calls kj5 _ _ t564 _ _ l2 t576 _ ?side1 ?side2 ?side3 ?side4 A16.out).mono ?_); (case side1 => repeat (first | exact (Kd.V_reads' HO_8.out).2.2 | (with_reducible refine zc1 ?_ _) | (with_reducible refine zc2 ?_ _) | (with_reducible refine zc3 ?_))); (case side2 => exact (Kd.V_reads' HO_8.out).2.1); (case side3 => repeat (first | exact (Kd.C_below HR2.out HB.out) | (with_reducible refine zc1 ?_ _) | (with_reducible refine zc2 ?_ _) | (with_reducible refine zc3 ?_))); (case side4 => exact HC2.out); rintro e w21 ⟨v577, rfl, ho0, hb⟩; refine ⟨_, rfl, ?_⟩; have n0_ := zm (Kd.V_below (by (with_reducible repeat (first | apply zv1 | apply zv2 | apply zv3)); exact HO_8.out) hb); have n1_ := zm (Kd.V_below (by (with_reducible repeat (first | apply zv1 | apply zv2 | apply zv3)); exact HO_10.out) hb); have n2_ := zm (Kd.V_below (by (with_reducible repeat (first | apply zv1 | apply zv2 | apply zv3)); exact HO574.out) hb); have n3_ := zm (Kd.V_lower (Kd.V_mono (ok' := fun k_ => (w.heap.size ≤ k_)) ho0 (fun k_ hk_ => (Nat.le_trans (below_size (by repeat (first | (with_reducible first | exact HB.out | apply zb1 | apply zb2 | apply zb3) | exact HB.out))) hk_))) (below_size (by repeat (first | (with_reducible first | exact HB.out | apply zb1 | apply zb2 | apply zb3) | exact HB.out)))); have n4_ := zm (below_step (by repeat (first | (with_reducible first | exact HB.out | apply zb1 | apply zb2 | apply zb3) | exact HB.out)) hb); clear HO_8; clear HO_10; clear HO574; clear HB; have HO_8 := n0_; have HO_10 := n1_; have HO574 := n2_; have HO578 := n3_; have HB := n4_; clear n0_ n1_ n2_ n3_ n4_; (try clear hb); (try clear hb2); (try clear hk); (try clear hi); (try clear ho0); obtain ⟨Ao22, co22, eo22⟩ := Kd.V_slice HO578.out; subst eo22) | ((with_reducible refine gate_callee (f := 35) rfl ?_); refine goesL_ (some 45) rfl rfl Try.func35 (by kernel_rfl) rfl #[.slice Ao22 t576.length co22, .slice Ao19 t568.length co19] rfl (by (try simp only [zl1, zl2, zl3]); first | done | rfl | (simp only [List.length_drop, List.length_take]; rfl)) ?_; (with_reducible refine (apostilleref7_Sub.calls kj5 _ _ t576 _ _ t568 t579 t582 _ ?side1 ?side2 ?side3 ?side4 A17.out).mono ?_); (case side1 => repeat (first | exact (Kd.V_reads' HO578.out).2.2 | (with_reducible refine zc1 ?_ _) | (with_reducible refine zc2 ?_ _) | (with_reducible refine zc3 ?_))); (case side2 => exact (Kd.V_reads' HO578.out).2.1); (case side3 => repeat (first | exact (Kd.V_reads' HO_10.out).2.2 | (with_reducible refine zc1 ?_ _) | (with_reducible refine zc2 ?_ _) | (with_reducible refine zc3 ?_))); (case side4 => exact (Kd.V_reads' HO_10.out).2.1); rintro e w23 ⟨v580, rfl, ho0, hb⟩; refine ⟨_, rfl, ?_⟩; have n0_ := zm (Kd.V_below (by (with_reducible repeat (first | apply zv1 | apply zv2 | apply zv3)); exact HO_8.out) hb); have n1_ := zm (Kd.V_below (by (with_reducible repeat (first | apply zv1 | apply zv2 | apply zv3)); exact HO_10.out) hb); have n2_ := zm (Kd.V_below (by (with_reducible repeat (first | apply zv1 | apply zv2 | apply zv3)); exact HO574.out) hb); have n3_ := zm (Kd.V_below (by (with_reducible repeat (first | apply zv1 | apply zv2 | apply zv3)); exact HO578.out) hb); have n4_ := zm (Kd.V_lower (Kd.V_mono (ok' := fun k_ => (w.heap.size ≤ k_)) ho0 (fun k_ hk_ => (Nat.le_trans (below_size (by repeat (first | (with_reducible first | exact HB.out | apply zb1 | apply zb2 | apply zb3) | exact HB.out))) hk_))) (below_size (by repeat (first | (with_reducible first | exact HB.out | apply zb1 | apply zb2 | apply zb3) | exact HB.out)))); have n5_ := zm (below_step (by repeat (first | (with_reducible first | exact HB.out | apply zb1 | apply zb2 | apply zb3) | exact HB.out)) hb); clear HO_8; clear HO_10; clear HO574; clear HO578; clear HB; have HO_8 := n0_; have HO_10 := n1_; have HO574 := n2_; have HO578 := n3_; have HO581 := n4_; have HB := n5_; clear n0_ n1_ n2_ n3_ n4_ n5_; (try clear hb); (try clear hb2); (try clear hk); (try clear hi); (try clear ho0)))
          go_ret2
          exact ⟨_, by first | rfl | (simp [errW_none, errW_some] <;> rfl) | (simp [*, errW_none, errW_some] <;> rfl), by (with_reducible repeat (first | apply zv1 | apply zv2 | apply zv3)); exact HO581.out, by repeat (first | (with_reducible first | exact HB.out | apply zb1 | apply zb2 | apply zb3) | exact HB.out)⟩

/-! ### apostilleref8_Inv: function 14 -/
def apostilleref8_Inv.l0 : Nat → List Int → List Int → List Int → List Int → List Int → Option (List Int × Bool)
  | 0, _, _, _, _, _ => none
  | k + 1, x1, x6, x7, x8, x9 => if (x7.length : Int) > 0 then ((apostilleref7_Div.f k x6 x7).bind fun bt594 => ((apostilleref8_Mul.f k bt594.1 x9 x1).bind fun bt601 => ((apostilleref8_Sub.f k x8 bt601.1 x1).bind fun bt605 => (apostilleref8_Inv.l0 k x1 x7 bt594.2.1 x9 bt605.1)))) else ((apostilleref7_Cmp.f k x6 (([1] : List Int))).bind fun t612 => (if t612 = 0 then (some (x8, true)) else (some (([] : List Int), false))))
def apostilleref8_Inv.f (k : Nat) (l0 : List Int) (l1 : List Int) : Option (List Int × Bool) := (apostilleref7_Cmp.f k l1 (([2] : List Int))).bind fun t586 => (if t586 < 0 then (some (([] : List Int), false)) else ((apostilleref8_Rest.f k l0 l1).bind fun bt587 => (apostilleref8_Inv.l0 k l1 l1 bt587.1 ([] : List Int) (([1] : List Int)))))
set_option maxHeartbeats 8000000 in
set_option maxRecDepth 100000 in
theorem apostilleref8_Inv.calls (k : Nat) (A0 : Option Addr) (c0 : Nat) (l0 : List Int) (P1_ : Nat → Prop) (A1 : Option Addr) (c1 : Nat) (l1 : List Int) (r1 : List Int) (r2 : Bool) (w : World) (hr0 : Kd.C (Kd.int .u32) w A0 l0.length l0) (hc0 : l0.length ≤ c0) (hs1 : Kd.V (Kd.int .u32) 31 w w.heap.size (fun k_ => P1_ k_) (.slice A1 l1.length c1) l1) (h : apostilleref8_Inv.f k l0 l1 = some (r1, r2)) :
    Calls Try.prog 14 #[.slice A0 l0.length c0, .slice A1 l1.length c1] w fun e w' => ∃ v0_ : Value, e = .returned (.tuple #[v0_, .bool r2]) ∧ Kd.V (Kd.int .u32) 31 w' w.heap.size (fun k_ => (P1_ k_ ∨ w.heap.size ≤ k_)) v0_ r1 ∧ Below w.heap.size w w' := by
  have HR0 := zm hr0
  have HC0 := zm hc0
  clear hr0 hc0
  have HO1 := zm (show Kd.V (Kd.int .u32) 31 w w.heap.size (fun k_ => (P1_ k_ ∨ w.heap.size ≤ k_)) (.slice A1 l1.length c1) l1 from Kd.V_mono hs1 (fun k_ hk => .inl hk))
  have HB := zm (Below.refl w.heap.size w)
  have H : ((apostilleref7_Cmp.f k l1 (([2] : List Int))).bind fun t586 => (if t586 < 0 then (some (([] : List Int), false)) else ((apostilleref8_Rest.f k l0 l1).bind fun bt587 => (apostilleref8_Inv.l0 k l1 l1 bt587.1 ([] : List Int) (([1] : List Int)))))) = some (r1, r2) := h
  clear h
  obtain ⟨y583, hy583⟩ : ∃ y_ : List Int, y_ = (([2] : List Int)) := ⟨_, rfl⟩
  replace H : ((apostilleref7_Cmp.f k l1 y583).bind fun t586 => (if t586 < 0 then (some (([] : List Int), false)) else ((apostilleref8_Rest.f k l0 l1).bind fun bt587 => (apostilleref8_Inv.l0 k l1 l1 bt587.1 ([] : List Int) (([1] : List Int)))))) = some (r1, r2) := by first | (rw [hy583]; with_reducible exact H) | (have H2_ := (Option.bind_some _ _).symm.trans H; rw [hy583]; with_reducible exact H2_) | (have H2_ := (Option.bind_some _ _).symm.trans H; with_reducible exact H2_) | with_reducible exact H | (rw [hy583]; exact H) | exact H
  have Ny583 := zm hy583
  clear hy583
  replace H := Option.bind_eq_some_iff.mp H
  obtain ⟨t586, A30, H⟩ := H
  replace H : (if t586 < 0 then (some (([] : List Int), false)) else ((apostilleref8_Rest.f k l0 l1).bind fun bt587 => (apostilleref8_Inv.l0 k l1 l1 bt587.1 ([] : List Int) (([1] : List Int))))) = some (r1, r2) := H
  have A3 := zm A30
  clear A30
  by_cases c4 : t586 < 0
  · rw [if_pos c4] at H
    have c4b0 : decide (t586 < 0) = true := decide_eq_true c4
    clear c4
    simp only [Option.some.injEq, Prod.mk.injEq] at H
    obtain ⟨rfl, rfl⟩ := H
    go_enter Try.func14, Try.ntmps14
    go_wp2_with (first | ((with_reducible refine gate_dst (N := 18) rfl ?_); refine Kd.R_lit (Kd.int .u32) _ 31 ?hg (N := 18) ?hd (xs := ([2] : List Int)) (inner := [.int .u32 2]) (ok := fun _ => True) (okp := fun _ => True) ?hr ?hp (fun _ hk => hk) trivial (Below.refl _ _) (Nat.le_refl _) (by simp) ?_; (case hd => rfl); (case hg => rfl); (case hr => first | (go_simp; done) | (go_simp; rfl)); (case hp => exact (Reps.one (show Kd.M (Kd.int .u32) _ _ _ 2 [.int .u32 2] from rfl) (Reps.none _ _))); intro v584 w5 ho6 hb hg_ hnew_; clear hg_ hnew_; (first | rw [← Ny583.out] at ho6 | (simp only [Int.reduceToNat] at ho6; rw [← Ny583.out] at ho6)); have n0_ := zm (Kd.V_elder' (by (with_reducible repeat (first | apply zv1 | apply zv2 | apply zv3)); exact HO1.out) (Kd.R_base ho6) hb); have n1_ := zm (Kd.R_lower (Kd.R_newM (M := fun k_ => (w.heap.size ≤ k_)) ho6 (below_size (by repeat (first | (with_reducible first | exact HB.out | apply zb1 | apply zb2 | apply zb3) | exact HB.out))) (fun k_ h_ => h_)) (below_size (by repeat (first | (with_reducible first | exact HB.out | apply zb1 | apply zb2 | apply zb3) | exact HB.out)))); have n2_ := zm (below_step (by repeat (first | (with_reducible first | exact HB.out | apply zb1 | apply zb2 | apply zb3) | exact HB.out)) hb); clear HO1; clear HB; have HO1 := n0_; have HO585 := n1_; have HB := n2_; clear n0_ n1_ n2_; clear hb ho6; obtain ⟨Ao7, co7, eo7⟩ := Kd.R_slice HO585.out; subst eo7) | ((with_reducible refine gate_callee (f := 16) rfl ?_); refine goesL_ (some 19) rfl rfl Try.func16 (by kernel_rfl) rfl #[.slice A1 l1.length c1, .slice Ao7 y583.length co7] rfl (by (try simp only [zl1, zl2, zl3]); first | done | rfl | (simp only [List.length_drop, List.length_take]; rfl)) ?_; (with_reducible refine (apostilleref7_Cmp.calls k _ _ l1 _ _ y583 t586 _ ?side1 ?side2 ?side3 ?side4 A3.out).mono ?_); (case side1 => repeat (first | exact (Kd.V_reads' HO1.out).2.2 | (with_reducible refine zc1 ?_ _) | (with_reducible refine zc2 ?_ _) | (with_reducible refine zc3 ?_))); (case side2 => exact (Kd.V_reads' HO1.out).2.1); (case side3 => repeat (first | exact (Kd.R_reads' HO585.out).2.2 | (with_reducible refine zc1 ?_ _) | (with_reducible refine zc2 ?_ _) | (with_reducible refine zc3 ?_))); (case side4 => exact (Kd.R_reads' HO585.out).2.1); rintro e w' ⟨rfl, ⟨nd, rfl⟩⟩; refine ⟨_, rfl, ?_⟩))
    go_ret2
    exact ⟨_, by first | rfl | (simp [errW_none, errW_some] <;> rfl) | (simp [*, errW_none, errW_some] <;> rfl), Kd.V_mono ((Kd.V_nil _ _ _ _ _)) (fun k_ hk => by first | exact ⟨(.inr (hk.1)), hk.2⟩ | exact (.inr (hk))), by repeat (first | (with_reducible first | exact HB.out | apply zb1 | apply zb2 | apply zb3) | exact HB.out)⟩
  · rw [if_neg c4] at H
    have c4b0 : decide (t586 < 0) = false := decide_eq_false c4
    clear c4
    replace H := Option.bind_eq_some_iff.mp H
    obtain ⟨⟨t587, t590⟩, A80, H⟩ := H
    replace H : (apostilleref8_Inv.l0 k l1 l1 t587 ([] : List Int) (([1] : List Int))) = some (r1, r2) := H
    have A8 := zm A80
    clear A80
    obtain ⟨y591, hy591⟩ : ∃ y_ : List Int, y_ = (([1] : List Int)) := ⟨_, rfl⟩
    replace H : (apostilleref8_Inv.l0 k l1 l1 t587 ([] : List Int) y591) = some (r1, r2) := by first | (rw [hy591]; with_reducible exact H) | (have H2_ := (Option.bind_some _ _).symm.trans H; rw [hy591]; with_reducible exact H2_) | (have H2_ := (Option.bind_some _ _).symm.trans H; with_reducible exact H2_) | with_reducible exact H | (rw [hy591]; exact H) | exact H
    have Ny591 := zm hy591
    clear hy591
    have H' := zm H
    clear H
    go_enter Try.func14, Try.ntmps14
    go_wp2_with (first | ((with_reducible refine gate_dst (N := 18) rfl ?_); refine Kd.R_lit (Kd.int .u32) _ 31 ?hg (N := 18) ?hd (xs := ([2] : List Int)) (inner := [.int .u32 2]) (ok := fun _ => True) (okp := fun _ => True) ?hr ?hp (fun _ hk => hk) trivial (Below.refl _ _) (Nat.le_refl _) (by simp) ?_; (case hd => rfl); (case hg => rfl); (case hr => first | (go_simp; done) | (go_simp; rfl)); (case hp => exact (Reps.one (show Kd.M (Kd.int .u32) _ _ _ 2 [.int .u32 2] from rfl) (Reps.none _ _))); intro v584 w9 ho10 hb hg_ hnew_; clear hg_ hnew_; (first | rw [← Ny583.out] at ho10 | (simp only [Int.reduceToNat] at ho10; rw [← Ny583.out] at ho10)); have n0_ := zm (Kd.V_elder' (by (with_reducible repeat (first | apply zv1 | apply zv2 | apply zv3)); exact HO1.out) (Kd.R_base ho10) hb); have n1_ := zm (Kd.R_lower (Kd.R_newM (M := fun k_ => (w.heap.size ≤ k_)) ho10 (below_size (by repeat (first | (with_reducible first | exact HB.out | apply zb1 | apply zb2 | apply zb3) | exact HB.out))) (fun k_ h_ => h_)) (below_size (by repeat (first | (with_reducible first | exact HB.out | apply zb1 | apply zb2 | apply zb3) | exact HB.out)))); have n2_ := zm (below_step (by repeat (first | (with_reducible first | exact HB.out | apply zb1 | apply zb2 | apply zb3) | exact HB.out)) hb); clear HO1; clear HB; have HO1 := n0_; have HO585 := n1_; have HB := n2_; clear n0_ n1_ n2_; clear hb ho10; obtain ⟨Ao11, co11, eo11⟩ := Kd.R_slice HO585.out; subst eo11) | ((with_reducible refine gate_callee (f := 16) rfl ?_); refine goesL_ (some 19) rfl rfl Try.func16 (by kernel_rfl) rfl #[.slice A1 l1.length c1, .slice Ao11 y583.length co11] rfl (by (try simp only [zl1, zl2, zl3]); first | done | rfl | (simp only [List.length_drop, List.length_take]; rfl)) ?_; (with_reducible refine (apostilleref7_Cmp.calls k _ _ l1 _ _ y583 t586 _ ?side1 ?side2 ?side3 ?side4 A3.out).mono ?_); (case side1 => repeat (first | exact (Kd.V_reads' HO1.out).2.2 | (with_reducible refine zc1 ?_ _) | (with_reducible refine zc2 ?_ _) | (with_reducible refine zc3 ?_))); (case side2 => exact (Kd.V_reads' HO1.out).2.1); (case side3 => repeat (first | exact (Kd.R_reads' HO585.out).2.2 | (with_reducible refine zc1 ?_ _) | (with_reducible refine zc2 ?_ _) | (with_reducible refine zc3 ?_))); (case side4 => exact (Kd.R_reads' HO585.out).2.1); rintro e w' ⟨rfl, ⟨nd, rfl⟩⟩; refine ⟨_, rfl, ?_⟩) | ((with_reducible refine gate_callee (f := 23) rfl ?_); refine goesL_ (some 26) rfl rfl Try.func23 (by kernel_rfl) rfl #[.slice A0 l0.length c0, .slice A1 l1.length c1] rfl (by (try simp only [zl1, zl2, zl3]); first | done | rfl | (simp only [List.length_drop, List.length_take]; rfl)) ?_; (with_reducible refine (apostilleref8_Rest.calls k _ _ l0 _ _ l1 t587 t590 _ ?side1 ?side2 ?side3 ?side4 A8.out).mono ?_); (case side1 => repeat (first | exact (Kd.C_below HR0.out (by repeat (first | (with_reducible first | exact HB.out | apply zb1 | apply zb2 | apply zb3) | exact HB.out))) | (with_reducible refine zc1 ?_ _) | (with_reducible refine zc2 ?_ _) | (with_reducible refine zc3 ?_))); (case side2 => exact HC0.out); (case side3 => repeat (first | exact (Kd.V_reads' HO1.out).2.2 | (with_reducible refine zc1 ?_ _) | (with_reducible refine zc2 ?_ _) | (with_reducible refine zc3 ?_))); (case side4 => exact (Kd.V_reads' HO1.out).2.1); rintro e w12 ⟨v588, rfl, ho0, hb⟩; refine ⟨_, rfl, ?_⟩; have n0_ := zm (Kd.V_below (by (with_reducible repeat (first | apply zv1 | apply zv2 | apply zv3)); exact HO1.out) hb); have n1_ := zm (Kd.R_below (by (with_reducible repeat (first | apply zr1 | apply zr2 | apply zr3)); exact HO585.out) hb); have n2_ := zm (Kd.V_lower (Kd.V_mono (ok' := fun k_ => (P1_ k_ ∨ w.heap.size ≤ k_) ∧ some k_ ≠ (.slice Ao11 y583.length co11 : Value).ownBlock) ho0 (fun k_ hk_ => ⟨(.inr (Nat.le_trans (below_size (by repeat (first | (with_reducible first | exact HB.out | apply zb1 | apply zb2 | apply zb3) | exact HB.out))) hk_)), (Kd.fresh' (Kd.R_lt (by (with_reducible repeat (first | apply zr1 | apply zr2 | apply zr3)); exact HO585.out)) k_ hk_)⟩)) (below_size (by repeat (first | (with_reducible first | exact HB.out | apply zb1 | apply zb2 | apply zb3) | exact HB.out)))); have n3_ := zm (below_step (by repeat (first | (with_reducible first | exact HB.out | apply zb1 | apply zb2 | apply zb3) | exact HB.out)) hb); clear HO1; clear HO585; clear HB; have HO1 := n0_; have HO585 := n1_; have HO589 := n2_; have HB := n3_; clear n0_ n1_ n2_ n3_; (try clear hb); (try clear hb2); (try clear hk); (try clear hi); (try clear ho0)) | ((with_reducible refine gate_dst (N := 29) rfl ?_); refine Kd.R_lit (Kd.int .u32) _ 31 ?hg (N := 29) ?hd (xs := ([1] : List Int)) (inner := [.int .u32 1]) (ok := fun _ => True) (okp := fun _ => True) ?hr ?hp (fun _ hk => hk) trivial (Below.refl _ _) (Nat.le_refl _) (by simp) ?_; (case hd => rfl); (case hg => rfl); (case hr => first | (go_simp; done) | (go_simp; rfl)); (case hp => exact (Reps.one (show Kd.M (Kd.int .u32) _ _ _ 1 [.int .u32 1] from rfl) (Reps.none _ _))); intro v592 w13 ho14 hb hg_ hnew_; clear hg_ hnew_; (first | rw [← Ny591.out] at ho14 | (simp only [Int.reduceToNat] at ho14; rw [← Ny591.out] at ho14)); have n0_ := zm (Kd.V_elder' (by (with_reducible repeat (first | apply zv1 | apply zv2 | apply zv3)); exact HO1.out) (Kd.R_base ho14) hb); have n1_ := zm (Kd.R_elder' (by (with_reducible repeat (first | apply zr1 | apply zr2 | apply zr3)); exact HO585.out) (Kd.R_base ho14) hb); have n2_ := zm (Kd.V_elder' (by (with_reducible repeat (first | apply zv1 | apply zv2 | apply zv3)); exact HO589.out) (Kd.R_base ho14) hb); have n3_ := zm (Kd.R_lower (Kd.R_new' (Kd.R_newM (M := fun k_ => (w.heap.size ≤ k_)) ho14 (below_size (by repeat (first | (with_reducible first | exact HB.out | apply zb1 | apply zb2 | apply zb3) | exact HB.out))) (fun k_ h_ => h_)) (Kd.R_lt (by (with_reducible repeat (first | apply zr1 | apply zr2 | apply zr3)); exact HO585.out))) (below_size (by repeat (first | (with_reducible first | exact HB.out | apply zb1 | apply zb2 | apply zb3) | exact HB.out)))); have n4_ := zm (below_step (by repeat (first | (with_reducible first | exact HB.out | apply zb1 | apply zb2 | apply zb3) | exact HB.out)) hb); clear HO1; clear HO585; clear HO589; clear HB; have HO1 := n0_; have HO585 := n1_; have HO589 := n2_; have HO593 := n3_; have HB := n4_; clear n0_ n1_ n2_ n3_ n4_; clear hb ho14))
    go_loopg [6, 7, 8, 9] k (fun kq v6 v7 v8 v9 w' => ∃ (x6_1 : List Int) (x7_1 : List Int) (x8_1 : List Int) (x9_1 : List Int), Aside0 (apostilleref8_Inv.l0 kq l1 x6_1 x7_1 x8_1 x9_1 = some (r1, r2)) ∧ Aside0 (kq ≤ k) ∧ Aside0 (Kd.V (Kd.int .u32) 31 w' w.heap.size (fun k_ => (P1_ k_ ∨ w.heap.size ≤ k_)) (.slice A1 l1.length c1) l1) ∧ Aside0 (Kd.V (Kd.int .u32) 31 w' w.heap.size (fun k_ => (P1_ k_ ∨ w.heap.size ≤ k_)) v6 x6_1) ∧ Aside0 (Kd.V (Kd.int .u32) 31 w' w.heap.size (fun k_ => (P1_ k_ ∨ w.heap.size ≤ k_)) v7 x7_1) ∧ Aside0 (Kd.V (Kd.int .u32) 31 w' w.heap.size (fun k_ => (P1_ k_ ∨ w.heap.size ≤ k_)) v8 x8_1) ∧ Aside0 (Kd.V (Kd.int .u32) 31 w' w.heap.size (fun k_ => (P1_ k_ ∨ w.heap.size ≤ k_)) v9 x9_1) ∧ Aside0 (Below w.heap.size w w'))
    case atStart => exact ⟨(l1), (t587), (([] : List Int)), (y591), H', ⟨Nat.le_refl _⟩, ⟨by (with_reducible repeat (first | apply zv1 | apply zv2 | apply zv3)); exact Kd.V_mono HO1.out (fun _ hk => hk.1.1)⟩, ⟨by (with_reducible repeat (first | apply zv1 | apply zv2 | apply zv3)); exact Kd.V_mono HO1.out (fun _ hk => hk.1.1)⟩, ⟨by (with_reducible repeat (first | apply zv1 | apply zv2 | apply zv3)); exact Kd.V_mono HO589.out (fun _ hk => hk.1.1)⟩, ⟨Kd.V_mono ((Kd.V_nil _ _ _ _ _)) (fun k_ hk => by first | exact ⟨(.inr (hk.1)), hk.2⟩ | exact (.inr (hk)))⟩, ⟨Kd.V_mono (Kd.R_V (by (with_reducible repeat (first | apply zr1 | apply zr2 | apply zr3)); exact Kd.R_mono HO593.out (fun _ hk => hk.1.1))) (fun k_ hk => by first | exact ⟨(.inr (hk.1)), hk.2⟩ | exact (.inr (hk)))⟩, ⟨by repeat (first | (with_reducible first | exact HB.out | apply zb1 | apply zb2 | apply zb3) | exact HB.out)⟩⟩
    case round =>
      clear H'
      try clear c1
      try clear c2
      try clear p2
      try clear c4
      try clear c4b0
      try clear c14
      obtain ⟨x6_1, x7_1, x8_1, x9_1, HA, HK1, HO_1, HO_6, HO_7, HO_8, HO_9, HB⟩ := hrel
      cases gk with
      | zero => exact absurd HA.out (by simp [apostilleref8_Inv.l0])
      | succ k1 =>
        have H := HA.out
        clear HA
        simp only [apostilleref8_Inv.l0] at H
        by_cases c15 : (x7_1.length : Int) > 0
        · rw [if_pos c15] at H
          have c15b0 : decide (0 < (x7_1.length : Int)) = true := decide_eq_true c15
          have c15b1 : decide (0 < x7_1.length) = true := decide_eq_true (by omega)
          clear c15
          replace H := Option.bind_eq_some_iff.mp H
          obtain ⟨⟨t594, t597, t600⟩, A160, H⟩ := H
          replace H : ((apostilleref8_Mul.f k1 t594 x9_1 l1).bind fun bt601 => ((apostilleref8_Sub.f k1 x8_1 bt601.1 l1).bind fun bt605 => (apostilleref8_Inv.l0 k1 l1 x7_1 t597 x9_1 bt605.1))) = some (r1, r2) := H
          have A16 := zm A160
          clear A160
          replace H := Option.bind_eq_some_iff.mp H
          obtain ⟨⟨t601, t604⟩, A170, H⟩ := H
          replace H : ((apostilleref8_Sub.f k1 x8_1 t601 l1).bind fun bt605 => (apostilleref8_Inv.l0 k1 l1 x7_1 t597 x9_1 bt605.1)) = some (r1, r2) := H
          have A17 := zm A170
          clear A170
          replace H := Option.bind_eq_some_iff.mp H
          obtain ⟨⟨t605, t608⟩, A180, H⟩ := H
          replace H : (apostilleref8_Inv.l0 k1 l1 x7_1 t597 x9_1 t605) = some (r1, r2) := H
          have A18 := zm A180
          clear A180
          have H' := zm H
          clear H
          obtain ⟨Ao19, co19, eo19⟩ := Kd.V_slice HO_7.out
          subst eo19
          obtain ⟨Ao20, co20, eo20⟩ := Kd.V_slice HO_6.out
          subst eo20
          go_wp2_with (first | ((with_reducible refine gate_callee (f := 30) rfl ?_); refine goesL_ (some 36) rfl rfl Try.func30 (by kernel_rfl) rfl #[.slice Ao20 x6_1.length co20, .slice Ao19 x7_1.length co19] rfl (by (try simp only [zl1, zl2, zl3]); first | done | rfl | (simp only [List.length_drop, List.length_take]; rfl)) ?_; (with_reducible refine (apostilleref7_Div.calls k1 _ _ x6_1 _ _ x7_1 t594 t597 t600 _ ?side1 ?side2 ?side3 ?side4 A16.out).mono ?_); (case side1 => repeat (first | exact (Kd.V_reads' HO_6.out).2.2 | (with_reducible refine zc1 ?_ _) | (with_reducible refine zc2 ?_ _) | (with_reducible refine zc3 ?_))); (case side2 => exact (Kd.V_reads' HO_6.out).2.1); (case side3 => repeat (first | exact (Kd.V_reads' HO_7.out).2.2 | (with_reducible refine zc1 ?_ _) | (with_reducible refine zc2 ?_ _) | (with_reducible refine zc3 ?_))); (case side4 => exact (Kd.V_reads' HO_7.out).2.1); rintro e w21 ⟨v595, v598, rfl, ho0, ho1, hb⟩; refine ⟨_, rfl, ?_⟩; have n0_ := zm (Kd.V_below (by (with_reducible repeat (first | apply zv1 | apply zv2 | apply zv3)); exact HO_1.out) hb); have n1_ := zm (Kd.V_below (by (with_reducible repeat (first | apply zv1 | apply zv2 | apply zv3)); exact HO_6.out) hb); have n2_ := zm (Kd.V_below (by (with_reducible repeat (first | apply zv1 | apply zv2 | apply zv3)); exact HO_7.out) hb); have n3_ := zm (Kd.V_below (by (with_reducible repeat (first | apply zv1 | apply zv2 | apply zv3)); exact HO_8.out) hb); have n4_ := zm (Kd.V_below (by (with_reducible repeat (first | apply zv1 | apply zv2 | apply zv3)); exact HO_9.out) hb); have n5_ := zm (Kd.V_lower (Kd.V_mono (ok' := fun k_ => (P1_ k_ ∨ w.heap.size ≤ k_)) ho0 (fun k_ hk_ => (.inr (Nat.le_trans (below_size (by repeat (first | (with_reducible first | exact HB.out | apply zb1 | apply zb2 | apply zb3) | exact HB.out))) hk_)))) (below_size (by repeat (first | (with_reducible first | exact HB.out | apply zb1 | apply zb2 | apply zb3) | exact HB.out)))); have n6_ := zm (Kd.V_lower (Kd.V_mono (ok' := fun k_ => (P1_ k_ ∨ w.heap.size ≤ k_)) ho1 (fun k_ hk_ => (.inr (Nat.le_trans (below_size (by repeat (first | (with_reducible first | exact HB.out | apply zb1 | apply zb2 | apply zb3) | exact HB.out))) hk_)))) (below_size (by repeat (first | (with_reducible first | exact HB.out | apply zb1 | apply zb2 | apply zb3) | exact HB.out)))); have n7_ := zm (below_step (by repeat (first | (with_reducible first | exact HB.out | apply zb1 | apply zb2 | apply zb3) | exact HB.out)) hb); clear HO_1; clear HO_6; clear HO_7; clear HO_8; clear HO_9; clear HB; have HO_1 := n0_; have HO_6 := n1_; have HO_7 := n2_; have HO_8 := n3_; have HO_9 := n4_; have HO596 := n5_; have HO599 := n6_; have HB := n7_; clear n0_ n1_ n2_ n3_ n4_ n5_ n6_ n7_; (try clear hb); (try clear hb2); (try clear hk); (try clear hi); (try clear ho0); (try clear ho1); obtain ⟨Ao22, co22, eo22⟩ := Kd.V_slice HO596.out; subst eo22; obtain ⟨Ao23, co23, eo23⟩ := Kd.V_slice HO_9.out; subst eo23) | ((with_reducible refine gate_callee (f := 15) rfl ?_); refine goesL_ (some 44) rfl rfl Try.func15 (by kernel_rfl) rfl #[.slice Ao22 t594.length co22, .slice Ao23 x9_1.length co23, .slice A1 l1.length c1] rfl (by (try simp only [zl1, zl2, zl3]); first | done | rfl | (simp only [List.length_drop, List.length_take]; rfl)) ?_; (with_reducible refine (apostilleref8_Mul.calls k1 _ _ t594 _ _ x9_1 _ _ l1 t601 t604 _ ?side1 ?side2 ?side3 ?side4 ?side5 ?side6 A17.out).mono ?_); (case side1 => repeat (first | exact (Kd.V_reads' HO596.out).2.2 | (with_reducible refine zc1 ?_ _) | (with_reducible refine zc2 ?_ _) | (with_reducible refine zc3 ?_))); (case side2 => exact (Kd.V_reads' HO596.out).2.1); (case side3 => repeat (first | exact (Kd.V_reads' HO_9.out).2.2 | (with_reducible refine zc1 ?_ _) | (with_reducible refine zc2 ?_ _) | (with_reducible refine zc3 ?_))); (case side4 => exact (Kd.V_reads' HO_9.out).2.1); (case side5 => repeat (first | exact (Kd.V_reads' HO_1.out).2.2 | (with_reducible refine zc1 ?_ _) | (with_reducible refine zc2 ?_ _) | (with_reducible refine zc3 ?_))); (case side6 => exact (Kd.V_reads' HO_1.out).2.1); rintro e w24 ⟨v602, rfl, ho0, hb⟩; refine ⟨_, rfl, ?_⟩; have n0_ := zm (Kd.V_below (by (with_reducible repeat (first | apply zv1 | apply zv2 | apply zv3)); exact HO_1.out) hb); have n1_ := zm (Kd.V_below (by (with_reducible repeat (first | apply zv1 | apply zv2 | apply zv3)); exact HO_6.out) hb); have n2_ := zm (Kd.V_below (by (with_reducible repeat (first | apply zv1 | apply zv2 | apply zv3)); exact HO_7.out) hb); have n3_ := zm (Kd.V_below (by (with_reducible repeat (first | apply zv1 | apply zv2 | apply zv3)); exact HO_8.out) hb); have n4_ := zm (Kd.V_below (by (with_reducible repeat (first | apply zv1 | apply zv2 | apply zv3)); exact HO_9.out) hb); have n5_ := zm (Kd.V_below (by (with_reducible repeat (first | apply zv1 | apply zv2 | apply zv3)); exact HO596.out) hb); have n6_ := zm (Kd.V_below (by (with_reducible repeat (first | apply zv1 | apply zv2 | apply zv3)); exact HO599.out) hb); have n7_ := zm (Kd.V_lower (Kd.V_mono (ok' := fun k_ => (P1_ k_ ∨ w.heap.size ≤ k_)) ho0 (fun k_ hk_ => (.inr (Nat.le_trans (below_size (by repeat (first | (with_reducible first | exact HB.out | apply zb1 | apply zb2 | apply zb3) | exact HB.out))) hk_)))) (below_size (by repeat (first | (with_reducible first | exact HB.out | apply zb1 | apply zb2 | apply zb3) | exact HB.out)))); have n8_ := zm (below_step (by repeat (first | (with_reducible first | exact HB.out | apply zb1 | apply zb2 | apply zb3) | exact HB.out)) hb); clear HO_1; clear HO_6; clear HO_7; clear HO_8; clear HO_9; clear HO596; clear HO599; clear HB; have HO_1 := n0_; have HO_6 := n1_; have HO_7 := n2_; have HO_8 := n3_; have HO_9 := n4_; have HO596 := n5_; have HO599 := n6_; have HO603 := n7_; have HB := n8_; clear n0_ n1_ n2_ n3_ n4_ n5_ n6_ n7_ n8_; (try clear hb); (try clear hb2); (try clear hk); (try clear hi); (try clear ho0); obtain ⟨Ao25, co25, eo25⟩ := Kd.V_slice HO_8.out; subst eo25; obtain ⟨Ao26, co26, eo26⟩ := Kd.V_slice HO603.out; subst eo26) | ((with_reducible refine gate_callee (f := 21) rfl ?_); refine goesL_ (some 51) rfl rfl Try.func21 (by kernel_rfl) rfl #[.slice Ao25 x8_1.length co25, .slice Ao26 t601.length co26, .slice A1 l1.length c1] rfl (by (try simp only [zl1, zl2, zl3]); first | done | rfl | (simp only [List.length_drop, List.length_take]; rfl)) ?_; (with_reducible refine (apostilleref8_Sub.calls k1 _ _ x8_1 _ _ t601 _ _ l1 t605 t608 _ ?side1 ?side2 ?side3 ?side4 ?side5 ?side6 A18.out).mono ?_); (case side1 => repeat (first | exact (Kd.V_reads' HO_8.out).2.2 | (with_reducible refine zc1 ?_ _) | (with_reducible refine zc2 ?_ _) | (with_reducible refine zc3 ?_))); (case side2 => exact (Kd.V_reads' HO_8.out).2.1); (case side3 => repeat (first | exact (Kd.V_reads' HO603.out).2.2 | (with_reducible refine zc1 ?_ _) | (with_reducible refine zc2 ?_ _) | (with_reducible refine zc3 ?_))); (case side4 => exact (Kd.V_reads' HO603.out).2.1); (case side5 => repeat (first | exact (Kd.V_reads' HO_1.out).2.2 | (with_reducible refine zc1 ?_ _) | (with_reducible refine zc2 ?_ _) | (with_reducible refine zc3 ?_))); (case side6 => exact (Kd.V_reads' HO_1.out).2.1); rintro e w27 ⟨v606, rfl, ho0, hb⟩; refine ⟨_, rfl, ?_⟩; have n0_ := zm (Kd.V_below (by (with_reducible repeat (first | apply zv1 | apply zv2 | apply zv3)); exact HO_1.out) hb); have n1_ := zm (Kd.V_below (by (with_reducible repeat (first | apply zv1 | apply zv2 | apply zv3)); exact HO_6.out) hb); have n2_ := zm (Kd.V_below (by (with_reducible repeat (first | apply zv1 | apply zv2 | apply zv3)); exact HO_7.out) hb); have n3_ := zm (Kd.V_below (by (with_reducible repeat (first | apply zv1 | apply zv2 | apply zv3)); exact HO_8.out) hb); have n4_ := zm (Kd.V_below (by (with_reducible repeat (first | apply zv1 | apply zv2 | apply zv3)); exact HO_9.out) hb); have n5_ := zm (Kd.V_below (by (with_reducible repeat (first | apply zv1 | apply zv2 | apply zv3)); exact HO596.out) hb); have n6_ := zm (Kd.V_below (by (with_reducible repeat (first | apply zv1 | apply zv2 | apply zv3)); exact HO599.out) hb); have n7_ := zm (Kd.V_below (by (with_reducible repeat (first | apply zv1 | apply zv2 | apply zv3)); exact HO603.out) hb); have n8_ := zm (Kd.V_lower (Kd.V_mono (ok' := fun k_ => (P1_ k_ ∨ w.heap.size ≤ k_)) ho0 (fun k_ hk_ => (.inr (Nat.le_trans (below_size (by repeat (first | (with_reducible first | exact HB.out | apply zb1 | apply zb2 | apply zb3) | exact HB.out))) hk_)))) (below_size (by repeat (first | (with_reducible first | exact HB.out | apply zb1 | apply zb2 | apply zb3) | exact HB.out)))); have n9_ := zm (below_step (by repeat (first | (with_reducible first | exact HB.out | apply zb1 | apply zb2 | apply zb3) | exact HB.out)) hb); clear HO_1; clear HO_6; clear HO_7; clear HO_8; clear HO_9; clear HO596; clear HO599; clear HO603; clear HB; have HO_1 := n0_; have HO_6 := n1_; have HO_7 := n2_; have HO_8 := n3_; have HO_9 := n4_; have HO596 := n5_; have HO599 := n6_; have HO603 := n7_; have HO607 := n8_; have HB := n9_; clear n0_ n1_ n2_ n3_ n4_ n5_ n6_ n7_ n8_ n9_; (try clear hb); (try clear hb2); (try clear hk); (try clear hi); (try clear ho0)))
          go_roundg k1
          case measure => have := HK1.out; omega
          case rel => exact ⟨(x7_1), (t597), (x9_1), (t605), H', ⟨by have := HK1.out; omega⟩, ⟨by (with_reducible repeat (first | apply zv1 | apply zv2 | apply zv3)); (first | exact HO_1.out | exact Kd.V_mono HO_1.out (fun k_ h_ => h_.1))⟩, ⟨by (with_reducible repeat (first | apply zv1 | apply zv2 | apply zv3)); (first | exact HO_7.out | exact Kd.V_mono HO_7.out (fun k_ h_ => h_.1))⟩, ⟨by (with_reducible repeat (first | apply zv1 | apply zv2 | apply zv3)); (first | exact HO599.out | exact Kd.V_mono HO599.out (fun k_ h_ => h_.1))⟩, ⟨by (with_reducible repeat (first | apply zv1 | apply zv2 | apply zv3)); (first | exact HO_9.out | exact Kd.V_mono HO_9.out (fun k_ h_ => h_.1))⟩, ⟨by (with_reducible repeat (first | apply zv1 | apply zv2 | apply zv3)); (first | exact HO607.out | exact Kd.V_mono HO607.out (fun k_ h_ => h_.1))⟩, ⟨by repeat (first | (with_reducible first | exact HB.out | apply zb1 | apply zb2 | apply zb3) | exact HB.out)⟩⟩
        · rw [if_neg c15] at H
          have c15b0 : decide (0 < (x7_1.length : Int)) = false := decide_eq_false c15
          have c15b1 : decide (0 < x7_1.length) = false := decide_eq_false (by omega)
          clear c15
          obtain ⟨y609, hy609⟩ : ∃ y_ : List Int, y_ = (([1] : List Int)) := ⟨_, rfl⟩
          replace H : ((apostilleref7_Cmp.f k1 x6_1 y609).bind fun t612 => (if t612 = 0 then (some (x8_1, true)) else (some (([] : List Int), false)))) = some (r1, r2) := by first | (rw [hy609]; with_reducible exact H) | (have H2_ := (Option.bind_some _ _).symm.trans H; rw [hy609]; with_reducible exact H2_) | (have H2_ := (Option.bind_some _ _).symm.trans H; with_reducible exact H2_) | with_reducible exact H | (rw [hy609]; exact H) | exact H
          have Ny609 := zm hy609
          clear hy609
          replace H := Option.bind_eq_some_iff.mp H
          obtain ⟨t612, A280, H⟩ := H
          replace H : (if t612 = 0 then (some (x8_1, true)) else (some (([] : List Int), false))) = some (r1, r2) := H
          have A28 := zm A280
          clear A280
          by_cases c29 : t612 = 0
          · rw [if_pos c29] at H
            have c29b0 : (t612 == 0) = true := beq_iff_eq.mpr c29
            have c29b1 : (t612 != 0) = false := bne_eq_false_iff_eq.mpr c29
            clear c29
            simp only [Option.some.injEq, Prod.mk.injEq] at H
            obtain ⟨rfl, rfl⟩ := H
            obtain ⟨Ao30, co30, eo30⟩ := Kd.V_slice HO_7.out
            subst eo30
            go_wp2_with (first | ((with_reducible refine gate_dst (N := 59) rfl ?_); refine Kd.R_lit (Kd.int .u32) _ 31 ?hg (N := 59) ?hd (xs := ([1] : List Int)) (inner := [.int .u32 1]) (ok := fun _ => True) (okp := fun _ => True) ?hr ?hp (fun _ hk => hk) trivial (Below.refl _ _) (Nat.le_refl _) (by simp) ?_; (case hd => rfl); (case hg => rfl); (case hr => first | (go_simp; done) | (go_simp; rfl)); (case hp => exact (Reps.one (show Kd.M (Kd.int .u32) _ _ _ 1 [.int .u32 1] from rfl) (Reps.none _ _))); intro v610 w31 ho32 hb hg_ hnew_; clear hg_ hnew_; (first | rw [← Ny609.out] at ho32 | (simp only [Int.reduceToNat] at ho32; rw [← Ny609.out] at ho32)); have n0_ := zm (Kd.V_elder' (by (with_reducible repeat (first | apply zv1 | apply zv2 | apply zv3)); exact HO_1.out) (Kd.R_base ho32) hb); have n1_ := zm (Kd.V_elder' (by (with_reducible repeat (first | apply zv1 | apply zv2 | apply zv3)); exact HO_6.out) (Kd.R_base ho32) hb); have n2_ := zm (Kd.V_elder' (by (with_reducible repeat (first | apply zv1 | apply zv2 | apply zv3)); exact HO_7.out) (Kd.R_base ho32) hb); have n3_ := zm (Kd.V_elder' (by (with_reducible repeat (first | apply zv1 | apply zv2 | apply zv3)); exact HO_8.out) (Kd.R_base ho32) hb); have n4_ := zm (Kd.V_elder' (by (with_reducible repeat (first | apply zv1 | apply zv2 | apply zv3)); exact HO_9.out) (Kd.R_base ho32) hb); have n5_ := zm (Kd.R_lower (Kd.R_newM (M := fun k_ => (w.heap.size ≤ k_)) ho32 (below_size (by repeat (first | (with_reducible first | exact HB.out | apply zb1 | apply zb2 | apply zb3) | exact HB.out))) (fun k_ h_ => h_)) (below_size (by repeat (first | (with_reducible first | exact HB.out | apply zb1 | apply zb2 | apply zb3) | exact HB.out)))); have n6_ := zm (below_step (by repeat (first | (with_reducible first | exact HB.out | apply zb1 | apply zb2 | apply zb3) | exact HB.out)) hb); clear HO_1; clear HO_6; clear HO_7; clear HO_8; clear HO_9; clear HB; have HO_1 := n0_; have HO_6 := n1_; have HO_7 := n2_; have HO_8 := n3_; have HO_9 := n4_; have HO611 := n5_; have HB := n6_; clear n0_ n1_ n2_ n3_ n4_ n5_ n6_; clear hb ho32; obtain ⟨Ao33, co33, eo33⟩ := Kd.V_slice HO_6.out; subst eo33; obtain ⟨Ao34, co34, eo34⟩ := Kd.R_slice HO611.out; subst eo34) | ((with_reducible refine gate_callee (f := 16) rfl ?_); refine goesL_ (some 60) rfl rfl Try.func16 (by kernel_rfl) rfl #[.slice Ao33 x6_1.length co33, .slice Ao34 y609.length co34] rfl (by (try simp only [zl1, zl2, zl3]); first | done | rfl | (simp only [List.length_drop, List.length_take]; rfl)) ?_; (with_reducible refine (apostilleref7_Cmp.calls k1 _ _ x6_1 _ _ y609 t612 _ ?side1 ?side2 ?side3 ?side4 A28.out).mono ?_); (case side1 => repeat (first | exact (Kd.V_reads' HO_6.out).2.2 | (with_reducible refine zc1 ?_ _) | (with_reducible refine zc2 ?_ _) | (with_reducible refine zc3 ?_))); (case side2 => exact (Kd.V_reads' HO_6.out).2.1); (case side3 => repeat (first | exact (Kd.R_reads' HO611.out).2.2 | (with_reducible refine zc1 ?_ _) | (with_reducible refine zc2 ?_ _) | (with_reducible refine zc3 ?_))); (case side4 => exact (Kd.R_reads' HO611.out).2.1); rintro e w' ⟨rfl, ⟨nd, rfl⟩⟩; refine ⟨_, rfl, ?_⟩))
            go_ret2
            exact ⟨_, by first | rfl | (simp [errW_none, errW_some] <;> rfl) | (simp [*, errW_none, errW_some] <;> rfl), by (with_reducible repeat (first | apply zv1 | apply zv2 | apply zv3)); exact Kd.V_mono HO_8.out (fun _ hk => hk.1), by repeat (first | (with_reducible first | exact HB.out | apply zb1 | apply zb2 | apply zb3) | exact HB.out)⟩
          · rw [if_neg c29] at H
            have c29b0 : (t612 == 0) = false := beq_eq_false_iff_ne.mpr c29
            have c29b1 : (t612 != 0) = true := bne_iff_ne.mpr c29
            simp only [Option.some.injEq, Prod.mk.injEq] at H
            obtain ⟨rfl, rfl⟩ := H
            obtain ⟨Ao35, co35, eo35⟩ := Kd.V_slice HO_7.out
            subst eo35
            go_wp2_with (first | ((with_reducible refine gate_dst (N := 59) rfl ?_); refine Kd.R_lit (Kd.int .u32) _ 31 ?hg (N := 59) ?hd (xs := ([1] : List Int)) (inner := [.int .u32 1]) (ok := fun _ => True) (okp := fun _ => True) ?hr ?hp (fun _ hk => hk) trivial (Below.refl _ _) (Nat.le_refl _) (by simp) ?_; (case hd => rfl); (case hg => rfl); (case hr => first | (go_simp; done) | (go_simp; rfl)); (case hp => exact (Reps.one (show Kd.M (Kd.int .u32) _ _ _ 1 [.int .u32 1] from rfl) (Reps.none _ _))); intro v610 w36 ho37 hb hg_ hnew_; clear hg_ hnew_; (first | rw [← Ny609.out] at ho37 | (simp only [Int.reduceToNat] at ho37; rw [← Ny609.out] at ho37)); have n0_ := zm (Kd.V_elder' (by (with_reducible repeat (first | apply zv1 | apply zv2 | apply zv3)); exact HO_1.out) (Kd.R_base ho37) hb); have n1_ := zm (Kd.V_elder' (by (with_reducible repeat (first | apply zv1 | apply zv2 | apply zv3)); exact HO_6.out) (Kd.R_base ho37) hb); have n2_ := zm (Kd.V_elder' (by (with_reducible repeat (first | apply zv1 | apply zv2 | apply zv3)); exact HO_7.out) (Kd.R_base ho37) hb); have n3_ := zm (Kd.V_elder' (by (with_reducible repeat (first | apply zv1 | apply zv2 | apply zv3)); exact HO_8.out) (Kd.R_base ho37) hb); have n4_ := zm (Kd.V_elder' (by (with_reducible repeat (first | apply zv1 | apply zv2 | apply zv3)); exact HO_9.out) (Kd.R_base ho37) hb); have n5_ := zm (Kd.R_lower (Kd.R_newM (M := fun k_ => (w.heap.size ≤ k_)) ho37 (below_size (by repeat (first | (with_reducible first | exact HB.out | apply zb1 | apply zb2 | apply zb3) | exact HB.out))) (fun k_ h_ => h_)) (below_size (by repeat (first | (with_reducible first | exact HB.out | apply zb1 | apply zb2 | apply zb3) | exact HB.out)))); have n6_ := zm (below_step (by repeat (first | (with_reducible first | exact HB.out | apply zb1 | apply zb2 | apply zb3) | exact HB.out)) hb); clear HO_1; clear HO_6; clear HO_7; clear HO_8; clear HO_9; clear HB; have HO_1 := n0_; have HO_6 := n1_; have HO_7 := n2_; have HO_8 := n3_; have HO_9 := n4_; have HO611 := n5_; have HB := n6_; clear n0_ n1_ n2_ n3_ n4_ n5_ n6_; clear hb ho37; obtain ⟨Ao38, co38, eo38⟩ := Kd.V_slice HO_6.out; subst eo38; obtain ⟨Ao39, co39, eo39⟩ := Kd.R_slice HO611.out; subst eo39) | ((with_reducible refine gate_callee (f := 16) rfl ?_); refine goesL_ (some 60) rfl rfl Try.func16 (by kernel_rfl) rfl #[.slice Ao38 x6_1.length co38, .slice Ao39 y609.length co39] rfl (by (try simp only [zl1, zl2, zl3]); first | done | rfl | (simp only [List.length_drop, List.length_take]; rfl)) ?_; (with_reducible refine (apostilleref7_Cmp.calls k1 _ _ x6_1 _ _ y609 t612 _ ?side1 ?side2 ?side3 ?side4 A28.out).mono ?_); (case side1 => repeat (first | exact (Kd.V_reads' HO_6.out).2.2 | (with_reducible refine zc1 ?_ _) | (with_reducible refine zc2 ?_ _) | (with_reducible refine zc3 ?_))); (case side2 => exact (Kd.V_reads' HO_6.out).2.1); (case side3 => repeat (first | exact (Kd.R_reads' HO611.out).2.2 | (with_reducible refine zc1 ?_ _) | (with_reducible refine zc2 ?_ _) | (with_reducible refine zc3 ?_))); (case side4 => exact (Kd.R_reads' HO611.out).2.1); rintro e w' ⟨rfl, ⟨nd, rfl⟩⟩; refine ⟨_, rfl, ?_⟩))
            go_ret2
            exact ⟨_, by first | rfl | (simp [errW_none, errW_some] <;> rfl) | (simp [*, errW_none, errW_some] <;> rfl), Kd.V_mono ((Kd.V_nil _ _ _ _ _)) (fun k_ hk => by first | exact ⟨(.inr (hk.1)), hk.2⟩ | exact (.inr (hk))), by repeat (first | (with_reducible first | exact HB.out | apply zb1 | apply zb2 | apply zb3) | exact HB.out)⟩

/-! ### apostilleref8_Add: function 20 -/
end Go.Proofs.Ytgdkbfipjeinjaa.A
