-- a text of this claim
import Derived.Test.YtlmjbhhapllfgaaAx1
import Derived.Test.YtlmjbhhapllfgaaAx3
import Derived.Test.YtlmjbhhapllfgaaAx4
import Derived.Test.YtlmjbhhapllfgaaAx5
import Derived.Test.YtlmjbhhapllfgaaAx7
import Derived.Test.YtlmjbhhapllfgaaAx8
import Derived.Test.YtlmjbhhapllfgaaAx0
namespace Go.Proofs.Ytlmjbhhapllfgaa.A
open Go.RowKit Go.Proofs.YtlmjbhhapllfgaaW.PrintWords Go.Proofs.YtlmjbhhapllfgaaW.PrintLast Go.Proofs.YtlmjbhhapllfgaaW.PrintMore
attribute [local go_sem] max2_int min2_int max_two min_two max_three min_three max_four min_four   -- for this text's walks alone
set_option linter.unusedVariables false
set_option linter.unusedSimpArgs false

/-! ### nat_Div: function 27 -/
def nat_Div.l0 : Nat → List Int → Int → List Int → List Int → Int → Option (List Int × List Int × Bool)
  | 0, _, _, _, _, _ => none
  | k + 1, x4, x7, x8, x9, x10 => if x10 ≥ 0 then ((nat_guess_at.f k x8 x9 x10).bind fun t305 => ((nat_less_at.f k x8 x9 t305 x10).bind fun bt306 => (if bt306.1 = true then ((nat_more_at.f k bt306.2 x9 x10).bind fun t308 => (if 0 ≤ x10 then (if x10 < (x4.length : Int) then (nat_Div.l0 k (x4.set (x10 : Int).toNat ((IntKind.u64.wrap (t305 - 1)) % 4294967296)) x7 t308 x9 (wrap64 (x10 - 1))) else (none)) else (none))) else (if 0 ≤ x10 then (if x10 < (x4.length : Int) then (nat_Div.l0 k (x4.set (x10 : Int).toNat ((t305) % 4294967296)) x7 bt306.2 x9 (wrap64 (x10 - 1))) else (none)) else (none))))) else ((nat_plain.f k x4).bind fun t295 => (if 0 ≤ (x9.length : Int) then (if (x9.length : Int) ≤ (x8.length : Int) then ((nat_back.f k (x8.take ((x9.length : Int) : Int).toNat) x7).bind fun t302 => (some (t295, t302, true))) else (none)) else (none)))
def nat_Div.f (k : Nat) (l0 : List Int) (l1 : List Int) : Option (List Int × List Int × Bool) := if (l1.length : Int) = 0 then (some (([] : List Int), ([] : List Int), false)) else ((nat_Cmp.f k l0 l1).bind fun t270 => (if t270 < 0 then ((api_Nat_uint32.f l0).bind fun t271 => (some (([] : List Int), t271, true))) else (if (l1.length : Int) = 1 then (if 0 < (l1.length : Int) then ((nat_short.f k l0 (rd l1 0)).bind fun bt275 => (some (bt275.1, bt275.2, true))) else (none)) else (if 0 ≤ (wrap64 ((l1.length : Int) - 1)) then (if (wrap64 ((l1.length : Int) - 1)) < (l1.length : Int) then ((bits_LeadingZeros32.f (rd l1 (wrap64 ((l1.length : Int) - 1)))).bind fun t282 => ((nat_shifted.f k l0 t282).bind fun t283 => ((nat_shifted.f k l1 t282).bind fun t286 => ((nat_plain.f k t286).bind fun t289 => (if 0 ≤ (wrap64 ((wrap64 ((l0.length : Int) - (l1.length : Int))) + 1)) then (if (wrap64 ((wrap64 ((l0.length : Int) - (l1.length : Int))) + 1) : Int).toNat ≤ 70368744177664 then ((some (List.replicate (wrap64 ((wrap64 ((l0.length : Int) - (l1.length : Int))) + 1) : Int).toNat 0 : List Int)).bind fun y292 => (nat_Div.l0 k y292 t282 t283 t289 (wrap64 ((y292.length : Int) - 1)))) else (none)) else (none)))))) else (none)) else (none)))))
def nat_Div.T20 : Bool × List (List Nat × List Nat) := (true, [([], []), ([0], [0]), ([], []), ([], []), ([3], [3]), ([2, 4], [2, 4]), ([], []), ([5, 6, 1], [5, 6]), ([1, 7, 0, 1], [0, 1]), ([7, 8, 0, 1, 2, 3, 4, 5, 6, 7, 8], [7]), ([9, 0, 1, 2, 3, 4, 5, 6, 7, 8, 9], [])])
def nat_Div.B20 : List Nat := [0, 1, 0, 0, 8, 28, 0, 127, 255, 511, 1023]
theorem nat_Div.tab20 : rtab .any (opsOf Try.f27 20) = nat_Div.T20 := by kernel_rfl
theorem nat_Div.bits20 : waitsOk nat_Div.T20.2 nat_Div.B20 = true := by kernel_rfl
set_option maxHeartbeats 8000000 in
set_option maxRecDepth 100000 in
theorem nat_Div.calls (k : Nat) (A0 : Option Addr) (c0 : Nat) (l0 : List Int) (A1 : Option Addr) (c1 : Nat) (l1 : List Int) (r1 : List Int) (r2 : List Int) (r3 : Bool) (w : World) (hr0 : Kd.C (Kd.int .u32) w A0 l0.length l0) (hc0 : l0.length ≤ c0) (hr1 : Kd.C (Kd.int .u32) w A1 l1.length l1) (hc1 : l1.length ≤ c1) (h : nat_Div.f k l0 l1 = some (r1, r2, r3)) :
    Calls Try.prog 27 #[.slice A0 l0.length c0, .slice A1 l1.length c1] w fun e w' => ∃ v0_ v1_ : Value, e = .returned (.tuple #[v0_, v1_, .bool r3]) ∧ Kd.V (Kd.int .u32) 40 w' w.heap.size (fun k_ => (w.heap.size ≤ k_) ∧ some k_ ≠ (v1_ : Value).ownBlock) v0_ r1 ∧ Kd.R (Kd.int .u32) 40 w' w.heap.size (fun k_ => (w.heap.size ≤ k_)) v1_ r2 ∧ Below w.heap.size w w' := by
  have HR0 := zm hr0
  have HC0 := zm hc0
  clear hr0 hc0
  have HR1 := zm hr1
  have HC1 := zm hc1
  clear hr1 hc1
  have HB := zm (Below.refl w.heap.size w)
  have H : (if (l1.length : Int) = 0 then (some (([] : List Int), ([] : List Int), false)) else ((nat_Cmp.f k l0 l1).bind fun t270 => (if t270 < 0 then ((api_Nat_uint32.f l0).bind fun t271 => (some (([] : List Int), t271, true))) else (if (l1.length : Int) = 1 then (if 0 < (l1.length : Int) then ((nat_short.f k l0 (rd l1 0)).bind fun bt275 => (some (bt275.1, bt275.2, true))) else (none)) else (if 0 ≤ (wrap64 ((l1.length : Int) - 1)) then (if (wrap64 ((l1.length : Int) - 1)) < (l1.length : Int) then ((bits_LeadingZeros32.f (rd l1 (wrap64 ((l1.length : Int) - 1)))).bind fun t282 => ((nat_shifted.f k l0 t282).bind fun t283 => ((nat_shifted.f k l1 t282).bind fun t286 => ((nat_plain.f k t286).bind fun t289 => (if 0 ≤ (wrap64 ((wrap64 ((l0.length : Int) - (l1.length : Int))) + 1)) then (if (wrap64 ((wrap64 ((l0.length : Int) - (l1.length : Int))) + 1) : Int).toNat ≤ 70368744177664 then ((some (List.replicate (wrap64 ((wrap64 ((l0.length : Int) - (l1.length : Int))) + 1) : Int).toNat 0 : List Int)).bind fun y292 => (nat_Div.l0 k y292 t282 t283 t289 (wrap64 ((y292.length : Int) - 1)))) else (none)) else (none)))))) else (none)) else (none)))))) = some (r1, r2, r3) := h
  clear h
  by_cases c3 : (l1.length : Int) = 0
  · rw [if_pos c3] at H
    have c3b0 : ((l1.length : Int) == 0) = true := beq_iff_eq.mpr c3
    have c3b1 : ((l1.length : Int) != 0) = false := bne_eq_false_iff_eq.mpr c3
    clear c3
    simp only [Option.some.injEq, Prod.mk.injEq] at H
    obtain ⟨rfl, rfl, rfl⟩ := H
    go_enter Try.func27, Try.ntmps27
    go_wp2
    go_ret3
    exact ⟨_, _, by first | rfl | (simp [errW_none, errW_some] <;> rfl) | (simp [*, errW_none, errW_some] <;> rfl), (Kd.V_nil _ _ _ _ _), by first | exact Kd.R_nil _ _ _ _ _ | exact Kd.N_nil _ _ _ _ _ | exact Kd.V_nil _ _ _ _ _ | exact Kd.Q_nil _ _ _ _ _ | exact Kd.S_nil _ _ _ _ _, by repeat (first | (with_reducible first | exact HB.out | apply zb1 | apply zb2 | apply zb3) | exact HB.out)⟩
  · rw [if_neg c3] at H
    have c3b0 : ((l1.length : Int) == 0) = false := beq_eq_false_iff_ne.mpr c3
    have c3b1 : ((l1.length : Int) != 0) = true := bne_iff_ne.mpr c3
    have c3b2 : ¬ (l1 = []) := fun h_ => c3 (by rw [h_]; rfl)
    replace H := Option.bind_eq_some_iff.mp H
    obtain ⟨t270, A40, H⟩ := H
    replace H : (if t270 < 0 then ((api_Nat_uint32.f l0).bind fun t271 => (some (([] : List Int), t271, true))) else (if (l1.length : Int) = 1 then (if 0 < (l1.length : Int) then ((nat_short.f k l0 (rd l1 0)).bind fun bt275 => (some (bt275.1, bt275.2, true))) else (none)) else (if 0 ≤ (wrap64 ((l1.length : Int) - 1)) then (if (wrap64 ((l1.length : Int) - 1)) < (l1.length : Int) then ((bits_LeadingZeros32.f (rd l1 (wrap64 ((l1.length : Int) - 1)))).bind fun t282 => ((nat_shifted.f k l0 t282).bind fun t283 => ((nat_shifted.f k l1 t282).bind fun t286 => ((nat_plain.f k t286).bind fun t289 => (if 0 ≤ (wrap64 ((wrap64 ((l0.length : Int) - (l1.length : Int))) + 1)) then (if (wrap64 ((wrap64 ((l0.length : Int) - (l1.length : Int))) + 1) : Int).toNat ≤ 70368744177664 then ((some (List.replicate (wrap64 ((wrap64 ((l0.length : Int) - (l1.length : Int))) + 1) : Int).toNat 0 : List Int)).bind fun y292 => (nat_Div.l0 k y292 t282 t283 t289 (wrap64 ((y292.length : Int) - 1)))) else (none)) else (none)))))) else (none)) else (none)))) = some (r1, r2, r3) := H
    have A4 := zm A40
    clear A40
    by_cases c5 : t270 < 0
    · rw [if_pos c5] at H
      have c5b0 : decide (t270 < 0) = true := decide_eq_true c5
      clear c5
      replace H := Option.bind_eq_some_iff.mp H
      obtain ⟨t271, A60, H⟩ := H
      replace H : (some (([] : List Int), t271, true)) = some (r1, r2, r3) := H
      have A6 := zm A60
      clear A60
      simp only [Option.some.injEq, Prod.mk.injEq] at H
      obtain ⟨rfl, rfl, rfl⟩ := H
      go_enter Try.func27, Try.ntmps27
      go_wp2_with (first | ((with_reducible refine gate_callee (f := 25) rfl ?_); refine goesL_ (some 20) rfl rfl Try.func25 (by kernel_rfl) rfl #[.slice A0 l0.length c0, .slice A1 l1.length c1] rfl (by (try simp only [zl1, zl2, zl3]); first | done | rfl | (simp only [List.length_drop, List.length_take]; rfl)) ?_; (with_reducible refine (nat_Cmp.calls k _ _ l0 _ _ l1 t270 _ ?side1 ?side2 ?side3 ?side4 A4.out).mono ?_); (case side1 => repeat (first | exact HR0.out | (with_reducible refine zc1 ?_ _) | (with_reducible refine zc2 ?_ _) | (with_reducible refine zc3 ?_))); (case side2 => exact HC0.out); (case side3 => repeat (first | exact HR1.out | (with_reducible refine zc1 ?_ _) | (with_reducible refine zc2 ?_ _) | (with_reducible refine zc3 ?_))); (case side4 => exact HC1.out); rintro e w' ⟨rfl, ⟨nd, rfl⟩⟩; refine ⟨_, rfl, ?_⟩) | ((with_reducible refine gate_callee (f := 37) rfl ?_); refine goesL_ (some 23) rfl rfl Try.func37 (by kernel_rfl) rfl #[.slice A0 l0.length c0] rfl (by (try simp only [zl1, zl2, zl3]); first | done | rfl | (simp only [List.length_drop, List.length_take]; rfl)) ?_; (with_reducible refine (api_Nat_uint32.calls _ _ l0 t271 _ ?side1 ?side2 A6.out).mono ?_); (case side1 => repeat (first | exact HR0.out | (with_reducible refine zc1 ?_ _) | (with_reducible refine zc2 ?_ _) | (with_reducible refine zc3 ?_))); (case side2 => exact HC0.out); rintro e w7 ⟨v272, rfl, ho0, hb⟩; refine ⟨_, rfl, ?_⟩; have n0_ := zm (Kd.R_lower (Kd.R_newM (M := fun k_ => (w.heap.size ≤ k_)) ho0 (below_size (by repeat (first | (with_reducible first | exact HB.out | apply zb1 | apply zb2 | apply zb3) | exact HB.out))) (fun k_ h_ => h_)) (below_size (by repeat (first | (with_reducible first | exact HB.out | apply zb1 | apply zb2 | apply zb3) | exact HB.out)))); have n1_ := zm (below_step (by repeat (first | (with_reducible first | exact HB.out | apply zb1 | apply zb2 | apply zb3) | exact HB.out)) hb); clear HB; have HO273 := n0_; have HB := n1_; clear n0_ n1_; (try clear hb); (try clear hb2); (try clear hk); (try clear hi); (try clear ho0)))
      go_ret3
      exact ⟨_, _, by first | rfl | (simp [errW_none, errW_some] <;> rfl) | (simp [*, errW_none, errW_some] <;> rfl), (Kd.V_nil _ _ _ _ _), by (with_reducible repeat (first | apply zr1 | apply zr2 | apply zr3)); exact Kd.R_mono HO273.out (fun _ hk => hk.1), by repeat (first | (with_reducible first | exact HB.out | apply zb1 | apply zb2 | apply zb3) | exact HB.out)⟩
    · rw [if_neg c5] at H
      have c5b0 : decide (t270 < 0) = false := decide_eq_false c5
      clear c5
      by_cases c8 : (l1.length : Int) = 1
      · rw [if_pos c8] at H
        have c8b0 : ((l1.length : Int) == 1) = true := beq_iff_eq.mpr c8
        have c8b1 : ((l1.length : Int) != 1) = false := bne_eq_false_iff_eq.mpr c8
        clear c8
        by_cases c9 : 0 < (l1.length : Int)
        · rw [if_pos c9] at H
          have c9b0 : decide (0 < (l1.length : Int)) = true := decide_eq_true c9
          have c9b1 : decide (0 < l1.length) = true := decide_eq_true (by omega)
          clear c9
          replace H := Option.bind_eq_some_iff.mp H
          obtain ⟨⟨t275, t276⟩, A100, H⟩ := H
          replace H : (some (t275, t276, true)) = some (r1, r2, r3) := H
          have A10 := zm A100
          clear A100
          simp only [Option.some.injEq, Prod.mk.injEq] at H
          obtain ⟨rfl, rfl, rfl⟩ := H
          go_enter Try.func27, Try.ntmps27
          go_wp2_with (first | ((with_reducible refine gate_callee (f := 25) rfl ?_); refine goesL_ (some 20) rfl rfl Try.func25 (by kernel_rfl) rfl #[.slice A0 l0.length c0, .slice A1 l1.length c1] rfl (by (try simp only [zl1, zl2, zl3]); first | done | rfl | (simp only [List.length_drop, List.length_take]; rfl)) ?_; (with_reducible refine (nat_Cmp.calls k _ _ l0 _ _ l1 t270 _ ?side1 ?side2 ?side3 ?side4 A4.out).mono ?_); (case side1 => repeat (first | exact HR0.out | (with_reducible refine zc1 ?_ _) | (with_reducible refine zc2 ?_ _) | (with_reducible refine zc3 ?_))); (case side2 => exact HC0.out); (case side3 => repeat (first | exact HR1.out | (with_reducible refine zc1 ?_ _) | (with_reducible refine zc2 ?_ _) | (with_reducible refine zc3 ?_))); (case side4 => exact HC1.out); rintro e w' ⟨rfl, ⟨nd, rfl⟩⟩; refine ⟨_, rfl, ?_⟩; have p274 : 0 ≤ (0 : Int) := (by omega); have q274 : 0 < (l1.length : Int) := of_decide_eq_true (by first | (with_reducible assumption) | assumption); obtain ⟨ad274, e274, hx274_0⟩ := Kd.at_int HR1.out 0 p274 q274; cases e274; have qi274 : (0 < l1.length) = True := eq_true (by omega); (try rw [show ((0 : Int)).toNat = 0 from rfl] at hx274_0); (try rw [Addr.add_zero'] at hx274_0); replace p274 := eq_true p274; replace q274 := eq_true q274) | ((with_reducible refine gate_callee (f := 38) rfl ?_); refine goesL_ (some 33) rfl rfl Try.func38 (by kernel_rfl) rfl #[.slice A0 l0.length c0, .int .u32 (rd l1 0)] rfl (by (try simp only [zl1, zl2, zl3]); first | done | rfl | (simp only [List.length_drop, List.length_take]; rfl)) ?_; (with_reducible refine (nat_short.calls k _ _ l0 (rd l1 0) t275 t276 _ ?side1 ?side2 A10.out).mono ?_); (case side1 => repeat (first | exact HR0.out | (with_reducible refine zc1 ?_ _) | (with_reducible refine zc2 ?_ _) | (with_reducible refine zc3 ?_))); (case side2 => exact HC0.out); rintro e w11 ⟨v277, v279, rfl, ho0, ho1, hb⟩; refine ⟨_, rfl, ?_⟩; have n0_ := zm (Kd.R_lower (Kd.R_newM (M := fun k_ => (w.heap.size ≤ k_)) ho0 (below_size (by repeat (first | (with_reducible first | exact HB.out | apply zb1 | apply zb2 | apply zb3) | exact HB.out))) (fun k_ h_ => h_)) (below_size (by repeat (first | (with_reducible first | exact HB.out | apply zb1 | apply zb2 | apply zb3) | exact HB.out)))); have n1_ := zm (Kd.R_lower (Kd.R_newM (M := fun k_ => (w.heap.size ≤ k_)) ho1 (below_size (by repeat (first | (with_reducible first | exact HB.out | apply zb1 | apply zb2 | apply zb3) | exact HB.out))) (fun k_ h_ => h_)) (below_size (by repeat (first | (with_reducible first | exact HB.out | apply zb1 | apply zb2 | apply zb3) | exact HB.out)))); have n2_ := zm (below_step (by repeat (first | (with_reducible first | exact HB.out | apply zb1 | apply zb2 | apply zb3) | exact HB.out)) hb); clear HB; have HO278 := n0_; have HO280 := n1_; have HB := n2_; clear n0_ n1_ n2_; (try clear hb); (try clear hb2); (try clear hk); (try clear hi); (try clear ho0); (try clear ho1)))
          go_ret3
          exact ⟨_, _, by first | rfl | (simp [errW_none, errW_some] <;> rfl) | (simp [*, errW_none, errW_some] <;> rfl), Kd.R_V (by (with_reducible repeat (first | apply zr1 | apply zr2 | apply zr3)); exact HO278.out), by (with_reducible repeat (first | apply zr1 | apply zr2 | apply zr3)); exact Kd.R_mono HO280.out (fun _ hk => hk.1), by repeat (first | (with_reducible first | exact HB.out | apply zb1 | apply zb2 | apply zb3) | exact HB.out)⟩
        · rw [if_neg c9] at H
          exact absurd H (by simp)
      · rw [if_neg c8] at H
        have c8b0 : ((l1.length : Int) == 1) = false := beq_eq_false_iff_ne.mpr c8
        have c8b1 : ((l1.length : Int) != 1) = true := bne_iff_ne.mpr c8
        obtain ⟨ji12, hji12⟩ : ∃ j_ : Int, (wrap64 ((l1.length : Int) - 1)) = j_ := ⟨_, rfl⟩
        replace H : (if 0 ≤ (ji12) then (if (ji12) < (l1.length : Int) then ((bits_LeadingZeros32.f (rd l1 (ji12))).bind fun t282 => ((nat_shifted.f k l0 t282).bind fun t283 => ((nat_shifted.f k l1 t282).bind fun t286 => ((nat_plain.f k t286).bind fun t289 => (if 0 ≤ (wrap64 ((wrap64 ((l0.length : Int) - (l1.length : Int))) + 1)) then (if (wrap64 ((wrap64 ((l0.length : Int) - (l1.length : Int))) + 1) : Int).toNat ≤ 70368744177664 then ((some (List.replicate (wrap64 ((wrap64 ((l0.length : Int) - (l1.length : Int))) + 1) : Int).toNat 0 : List Int)).bind fun y292 => (nat_Div.l0 k y292 t282 t283 t289 (wrap64 ((y292.length : Int) - 1)))) else (none)) else (none)))))) else (none)) else (none)) = some (r1, r2, r3) := by first | (rw [hji12] at H; exact H) | (simp only [hji12] at H ⊢; exact H)
        (try rw [hji12] at A4)
        have hji12w : (IntKind.i64.wrap ((l1.length : Int) - 1)) = ji12 := (i64_w _).trans hji12
        by_cases c13 : 0 ≤ (ji12)
        · rw [if_pos c13] at H
          have c13b0 : decide (0 ≤ (ji12)) = true := decide_eq_true c13
          clear c13
          by_cases c14 : (ji12) < (l1.length : Int)
          · rw [if_pos c14] at H
            have c14b0 : decide ((ji12) < (l1.length : Int)) = true := decide_eq_true c14
            clear c14
            replace H := Option.bind_eq_some_iff.mp H
            obtain ⟨t282, A150, H⟩ := H
            replace H : ((nat_shifted.f k l0 t282).bind fun t283 => ((nat_shifted.f k l1 t282).bind fun t286 => ((nat_plain.f k t286).bind fun t289 => (if 0 ≤ (wrap64 ((wrap64 ((l0.length : Int) - (l1.length : Int))) + 1)) then (if (wrap64 ((wrap64 ((l0.length : Int) - (l1.length : Int))) + 1) : Int).toNat ≤ 70368744177664 then ((some (List.replicate (wrap64 ((wrap64 ((l0.length : Int) - (l1.length : Int))) + 1) : Int).toNat 0 : List Int)).bind fun y292 => (nat_Div.l0 k y292 t282 t283 t289 (wrap64 ((y292.length : Int) - 1)))) else (none)) else (none))))) = some (r1, r2, r3) := H
            have A15 := zm A150
            clear A150
            replace H := Option.bind_eq_some_iff.mp H
            obtain ⟨t283, A160, H⟩ := H
            replace H : ((nat_shifted.f k l1 t282).bind fun t286 => ((nat_plain.f k t286).bind fun t289 => (if 0 ≤ (wrap64 ((wrap64 ((l0.length : Int) - (l1.length : Int))) + 1)) then (if (wrap64 ((wrap64 ((l0.length : Int) - (l1.length : Int))) + 1) : Int).toNat ≤ 70368744177664 then ((some (List.replicate (wrap64 ((wrap64 ((l0.length : Int) - (l1.length : Int))) + 1) : Int).toNat 0 : List Int)).bind fun y292 => (nat_Div.l0 k y292 t282 t283 t289 (wrap64 ((y292.length : Int) - 1)))) else (none)) else (none)))) = some (r1, r2, r3) := H
            have A16 := zm A160
            clear A160
            replace H := Option.bind_eq_some_iff.mp H
            obtain ⟨t286, A170, H⟩ := H
            replace H : ((nat_plain.f k t286).bind fun t289 => (if 0 ≤ (wrap64 ((wrap64 ((l0.length : Int) - (l1.length : Int))) + 1)) then (if (wrap64 ((wrap64 ((l0.length : Int) - (l1.length : Int))) + 1) : Int).toNat ≤ 70368744177664 then ((some (List.replicate (wrap64 ((wrap64 ((l0.length : Int) - (l1.length : Int))) + 1) : Int).toNat 0 : List Int)).bind fun y292 => (nat_Div.l0 k y292 t282 t283 t289 (wrap64 ((y292.length : Int) - 1)))) else (none)) else (none))) = some (r1, r2, r3) := H
            have A17 := zm A170
            clear A170
            replace H := Option.bind_eq_some_iff.mp H
            obtain ⟨t289, A180, H⟩ := H
            replace H : (if 0 ≤ (wrap64 ((wrap64 ((l0.length : Int) - (l1.length : Int))) + 1)) then (if (wrap64 ((wrap64 ((l0.length : Int) - (l1.length : Int))) + 1) : Int).toNat ≤ 70368744177664 then ((some (List.replicate (wrap64 ((wrap64 ((l0.length : Int) - (l1.length : Int))) + 1) : Int).toNat 0 : List Int)).bind fun y292 => (nat_Div.l0 k y292 t282 t283 t289 (wrap64 ((y292.length : Int) - 1)))) else (none)) else (none)) = some (r1, r2, r3) := H
            have A18 := zm A180
            clear A180
            obtain ⟨ji19, hji19⟩ : ∃ j_ : Int, (wrap64 ((wrap64 ((l0.length : Int) - (l1.length : Int))) + 1)) = j_ := ⟨_, rfl⟩
            replace H : (if 0 ≤ (ji19) then (if (ji19 : Int).toNat ≤ 70368744177664 then ((some (List.replicate (ji19 : Int).toNat 0 : List Int)).bind fun y292 => (nat_Div.l0 k y292 t282 t283 t289 (wrap64 ((y292.length : Int) - 1)))) else (none)) else (none)) = some (r1, r2, r3) := by first | (rw [hji19] at H; exact H) | (simp only [hji19] at H ⊢; exact H)
            (try rw [hji19] at A4)
            (try rw [hji19] at A15)
            (try rw [hji19] at A16)
            (try rw [hji19] at A17)
            (try rw [hji19] at A18)
            have hji19w : (IntKind.i64.wrap ((wrap64 ((l0.length : Int) - (l1.length : Int))) + 1)) = ji19 := (i64_w _).trans hji19
            by_cases c20 : 0 ≤ (ji19)
            · rw [if_pos c20] at H
              have c20b0 := eq_true c20
              have c20b1 : decide (0 ≤ (ji19)) = true := decide_eq_true c20
              clear c20
              by_cases c21 : (ji19 : Int).toNat ≤ 70368744177664
              · rw [if_pos c21] at H
                have c21b0 := eq_true c21
                have c21b1 : decide ((ji19 : Int).toNat ≤ 70368744177664) = true := decide_eq_true c21
                clear c21
                obtain ⟨y292, hy292⟩ : ∃ y_ : List Int, y_ = (List.replicate (ji19 : Int).toNat 0) := ⟨_, rfl⟩
                replace H : (nat_Div.l0 k y292 t282 t283 t289 (wrap64 ((y292.length : Int) - 1))) = some (r1, r2, r3) := by first | (rw [hy292]; with_reducible exact H) | (have H2_ := (Option.bind_some _ _).symm.trans H; rw [hy292]; with_reducible exact H2_) | (have H2_ := (Option.bind_some _ _).symm.trans H; with_reducible exact H2_) | with_reducible exact H | (rw [hy292]; exact H) | exact H
                have Ny292 := zm hy292
                clear hy292
                have H' := zm H
                clear H
                go_enter Try.func27, Try.ntmps27
                go_wp2_with (first | ((with_reducible refine gate_callee (f := 25) rfl ?_); refine goesL_ (some 20) rfl rfl Try.func25 (by kernel_rfl) rfl #[.slice A0 l0.length c0, .slice A1 l1.length c1] rfl (by (try simp only [zl1, zl2, zl3]); first | done | rfl | (simp only [List.length_drop, List.length_take]; rfl)) ?_; (with_reducible refine (nat_Cmp.calls k _ _ l0 _ _ l1 t270 _ ?side1 ?side2 ?side3 ?side4 A4.out).mono ?_); (case side1 => repeat (first | exact HR0.out | (with_reducible refine zc1 ?_ _) | (with_reducible refine zc2 ?_ _) | (with_reducible refine zc3 ?_))); (case side2 => exact HC0.out); (case side3 => repeat (first | exact HR1.out | (with_reducible refine zc1 ?_ _) | (with_reducible refine zc2 ?_ _) | (with_reducible refine zc3 ?_))); (case side4 => exact HC1.out); rintro e w' ⟨rfl, ⟨nd, rfl⟩⟩; refine ⟨_, rfl, ?_⟩; have p281 : 0 ≤ ((ji12) : Int) := of_decide_eq_true (by first | (with_reducible assumption) | assumption); have q281 : (ji12) < (l1.length : Int) := of_decide_eq_true (by first | (with_reducible assumption) | assumption); obtain ⟨ad281, e281, hx281_0⟩ := Kd.at_int HR1.out (ji12) p281 q281; cases e281; replace p281 := eq_true p281; replace q281 := eq_true q281) | ((with_reducible refine gate_callee (f := 39) rfl ?_); refine goesL_ (some 44) rfl rfl Try.func39 (by kernel_rfl) rfl #[.int .u32 (rd l1 (ji12))] rfl (by (try simp only [zl1, zl2, zl3]); first | done | (simp only [hji12]; rfl) | rfl | (simp only [List.length_drop, List.length_take]; rfl)) ?_; (with_reducible refine (bits_LeadingZeros32.calls (rd l1 (ji12)) t282 _ A15.out).mono ?_); rintro e w' ⟨rfl, ⟨nd, rfl⟩⟩; refine ⟨_, rfl, ?_⟩) | ((with_reducible refine gate_callee (f := 40) rfl ?_); refine goesL_ (some 47) rfl rfl Try.func40 (by kernel_rfl) rfl #[.slice A0 l0.length c0, .int .i64 t282] rfl (by (try simp only [zl1, zl2, zl3]); first | done | rfl | (simp only [List.length_drop, List.length_take]; rfl)) ?_; (with_reducible refine (nat_shifted.calls k _ _ l0 t282 t283 _ ?side1 ?side2 A16.out).mono ?_); (case side1 => repeat (first | exact HR0.out | (with_reducible refine zc1 ?_ _) | (with_reducible refine zc2 ?_ _) | (with_reducible refine zc3 ?_))); (case side2 => exact HC0.out); rintro e w22 ⟨v284, rfl, ho0, hb⟩; refine ⟨_, rfl, ?_⟩; have n0_ := zm (Kd.R_lower (Kd.R_newM (M := fun k_ => (w.heap.size ≤ k_)) ho0 (below_size (by repeat (first | (with_reducible first | exact HB.out | apply zb1 | apply zb2 | apply zb3) | exact HB.out))) (fun k_ h_ => h_)) (below_size (by repeat (first | (with_reducible first | exact HB.out | apply zb1 | apply zb2 | apply zb3) | exact HB.out)))); have n1_ := zm (below_step (by repeat (first | (with_reducible first | exact HB.out | apply zb1 | apply zb2 | apply zb3) | exact HB.out)) hb); clear HB; have HO285 := n0_; have HB := n1_; clear n0_ n1_; (try clear hb); (try clear hb2); (try clear hk); (try clear hi); (try clear ho0)) | ((with_reducible refine gate_callee (f := 40) rfl ?_); refine goesL_ (some 50) rfl rfl Try.func40 (by kernel_rfl) rfl #[.slice (some ad281) l1.length c1, .int .i64 t282] rfl (by (try simp only [zl1, zl2, zl3]); first | done | rfl | (simp only [List.length_drop, List.length_take]; rfl)) ?_; (with_reducible refine (nat_shifted.calls k _ _ l1 t282 t286 _ ?side1 ?side2 A17.out).mono ?_); (case side1 => repeat (first | exact (Kd.C_below HR1.out HB.out) | (with_reducible refine zc1 ?_ _) | (with_reducible refine zc2 ?_ _) | (with_reducible refine zc3 ?_))); (case side2 => exact HC1.out); rintro e w23 ⟨v287, rfl, ho0, hb⟩; refine ⟨_, rfl, ?_⟩; have n0_ := zm (Kd.R_elder' (by (with_reducible repeat (first | apply zr1 | apply zr2 | apply zr3)); exact HO285.out) (Kd.R_base ho0) hb); have n1_ := zm (Kd.R_lower (Kd.R_new' (Kd.R_newM (M := fun k_ => (w.heap.size ≤ k_)) ho0 (below_size (by repeat (first | (with_reducible first | exact HB.out | apply zb1 | apply zb2 | apply zb3) | exact HB.out))) (fun k_ h_ => h_)) (Kd.R_lt (by (with_reducible repeat (first | apply zr1 | apply zr2 | apply zr3)); exact HO285.out))) (below_size (by repeat (first | (with_reducible first | exact HB.out | apply zb1 | apply zb2 | apply zb3) | exact HB.out)))); have n2_ := zm (below_step (by repeat (first | (with_reducible first | exact HB.out | apply zb1 | apply zb2 | apply zb3) | exact HB.out)) hb); clear HO285; clear HB; have HO285 := n0_; have HO288 := n1_; have HB := n2_; clear n0_ n1_ n2_; (try clear hb); (try clear hb2); (try clear hk); (try clear hi); (try clear ho0); obtain ⟨Ao24, co24, eo24⟩ := Kd.R_slice HO288.out; subst eo24) | ((with_reducible refine gate_callee (f := 29) rfl ?_); refine goesL_ (some 51) rfl rfl Try.func29 (by kernel_rfl) rfl #[.slice Ao24 t286.length co24] rfl (by (try simp only [zl1, zl2, zl3]); first | done | rfl | (simp only [List.length_drop, List.length_take]; rfl)) ?_; (with_reducible refine (nat_plain_sh.calls k (fun k_ => some k_ = (.slice Ao24 t286.length co24 : Value).ownBlock) _ _ t286 t289 _ ?side1 A18.out).mono ?_); (case side1 => exact Kd.R_V (Kd.R_tight rfl (HO288.out))); rintro e w25 ⟨v290, rfl, ho0, hb⟩; refine ⟨_, rfl, ?_⟩; have n0_ := zm (Kd.R_below (by (with_reducible repeat (first | apply zr1 | apply zr2 | apply zr3)); exact HO285.out) hb); have n1_ := zm (Kd.R_below (by (with_reducible repeat (first | apply zr1 | apply zr2 | apply zr3)); exact HO288.out) hb); have n2_ := zm (Kd.V_lower (Kd.V_mono (ok' := fun k_ => (w.heap.size ≤ k_) ∧ some k_ ≠ (v284 : Value).ownBlock) ho0 (fun k_ hk_ => ⟨Or.elim hk_ (fun hs_ => ((HO288.out).1 k_ hs_.symm).1.1) (fun hn_ => (Nat.le_trans (below_size (by repeat (first | (with_reducible first | exact HB.out | apply zb1 | apply zb2 | apply zb3) | exact HB.out))) hn_)), Or.elim hk_ (fun hs_ => ((HO288.out).1 k_ hs_.symm).2) (fun hn_ => (Kd.fresh' (Kd.R_lt (by (with_reducible repeat (first | apply zr1 | apply zr2 | apply zr3)); exact HO285.out)) k_ hn_))⟩)) (below_size (by repeat (first | (with_reducible first | exact HB.out | apply zb1 | apply zb2 | apply zb3) | exact HB.out)))); have n3_ := zm (below_step (by repeat (first | (with_reducible first | exact HB.out | apply zb1 | apply zb2 | apply zb3) | exact HB.out)) hb); clear HO285; clear HO288; clear HB; have HO285 := n0_; have HO288 := n1_; have HO291 := n2_; have HB := n3_; clear n0_ n1_ n2_ n3_; (try clear hb); (try clear hb2); (try clear hk); (try clear hi); (try clear ho0)) | ((with_reducible refine gate_dst (N := 58) rfl ?_); refine Kd.R_make (Kd.int .u32) _ 40 rfl (N := 58) rfl 24 _ _ rfl ji19 rfl rfl Try.underlying24 (.int .u32 0) 4 info40 rfl (by decide) (by omega) 0 (ok := fun _ => True) (okp := fun _ => True) rfl (fun _ hk => hk) trivial (of_decide_eq_true (by first | (with_reducible assumption) | assumption)) (Nat.le_trans (Nat.mul_le_mul_right _ (of_decide_eq_true (by first | (with_reducible assumption) | assumption) : ji19.toNat ≤ 70368744177664)) (by omega)) (Below.refl _ _) (Nat.le_refl _) ?_; intro v293 w26 ho27 hb hg_ hnew_; clear hg_ hnew_; (first | rw [← Ny292.out] at ho27 | (simp only [Int.reduceToNat] at ho27; rw [← Ny292.out] at ho27)); have n0_ := zm (Kd.R_elder' (by (with_reducible repeat (first | apply zr1 | apply zr2 | apply zr3)); exact HO285.out) (Kd.R_base ho27) hb); have n1_ := zm (Kd.R_elder' (by (with_reducible repeat (first | apply zr1 | apply zr2 | apply zr3)); exact HO288.out) (Kd.R_base ho27) hb); have n2_ := zm (Kd.V_elder' (by (with_reducible repeat (first | apply zv1 | apply zv2 | apply zv3)); exact HO291.out) (Kd.R_base ho27) hb); have n3_ := zm (Kd.R_lower (Kd.R_new' (Kd.R_new' (Kd.R_newM (M := fun k_ => (w.heap.size ≤ k_)) ho27 (below_size (by repeat (first | (with_reducible first | exact HB.out | apply zb1 | apply zb2 | apply zb3) | exact HB.out))) (fun k_ h_ => h_)) (Kd.R_lt (by (with_reducible repeat (first | apply zr1 | apply zr2 | apply zr3)); exact HO285.out))) (Kd.R_lt (by (with_reducible repeat (first | apply zr1 | apply zr2 | apply zr3)); exact HO288.out))) (below_size (by repeat (first | (with_reducible first | exact HB.out | apply zb1 | apply zb2 | apply zb3) | exact HB.out)))); have n4_ := zm (below_step (by repeat (first | (with_reducible first | exact HB.out | apply zb1 | apply zb2 | apply zb3) | exact HB.out)) hb); clear HO285; clear HO288; clear HO291; clear HB; have HO285 := n0_; have HO288 := n1_; have HO291 := n2_; have HO294 := n3_; have HB := n4_; clear n0_ n1_ n2_ n3_ n4_; clear hb ho27; obtain ⟨Ao28, co28, eo28⟩ := Kd.R_slice HO294.out; subst eo28))
                go_loopg [10] k (fun kq v10 w' => ∃ (x4_1 : List Int) (x8_1 : List Int) (x10_1 : Int), v10 = .int .i64 x10_1 ∧ Aside0 (nat_Div.l0 kq x4_1 t282 x8_1 t289 x10_1 = some (r1, r2, r3)) ∧ Aside0 (kq ≤ k) ∧ Aside0 (Kd.R (Kd.int .u32) 40 w' w.heap.size (fun k_ => (w.heap.size ≤ k_) ∧ some k_ ≠ (v284 : Value).ownBlock) (.slice Ao28 y292.length co28) x4_1) ∧ Aside0 (Kd.R (Kd.int .u32) 40 w' w.heap.size (fun k_ => (w.heap.size ≤ k_) ∧ some k_ ≠ ((.slice Ao28 y292.length co28) : Value).ownBlock) v284 x8_1) ∧ Aside0 (Kd.V (Kd.int .u32) 40 w' w.heap.size (fun k_ => (w.heap.size ≤ k_) ∧ some k_ ≠ ((.slice Ao28 y292.length co28) : Value).ownBlock ∧ some k_ ≠ (v284 : Value).ownBlock) v290 t289) ∧ Aside0 (Below w.heap.size w w'))
                case atStart => exact ⟨(y292), (t283), (wrap64 ((y292.length : Int) - 1)), (by first | rfl | (simp; done) | (simp [*]; done)), H', ⟨Nat.le_refl _⟩, ⟨by (with_reducible repeat (first | apply zr1 | apply zr2 | apply zr3)); exact Kd.R_mono HO294.out (fun _ hk => ⟨hk.1.1.1, hk.1.2⟩)⟩, ⟨by (with_reducible repeat (first | apply zr1 | apply zr2 | apply zr3)); exact Kd.R_mono HO285.out (fun _ hk => ⟨hk.1.1.1, hk.2⟩)⟩, ⟨by (with_reducible repeat (first | apply zv1 | apply zv2 | apply zv3)); exact Kd.V_mono HO291.out (fun _ hk => ⟨hk.1.1, ⟨hk.2, hk.1.2⟩⟩)⟩, ⟨by repeat (first | (with_reducible first | exact HB.out | apply zb1 | apply zb2 | apply zb3) | exact HB.out)⟩⟩
                case round =>
                  clear H'
                  try clear c1
                  try clear c2
                  try clear p2
                  try clear q2
                  try clear hx2
                  try clear qi2
                  try clear c3
                  try clear c3b0
                  try clear c3b1
                  try clear c3b2
                  try clear c4
                  try clear c5
                  try clear c5b0
                  try clear p6
                  try clear c8
                  try clear c8b0
                  try clear c8b1
                  try clear c9
                  try clear c9b0
                  try clear c9b1
                  try clear c13
                  try clear c13b0
                  try clear c14
                  try clear c14b0
                  try clear c20
                  try clear c20b0
                  try clear c20b1
                  try clear c21
                  try clear c21b0
                  try clear c21b1
                  try clear c25
                  try clear c27
                  try clear p27
                  try clear q27
                  try clear hx27
                  try clear qi27
                  try clear p28
                  try clear q28
                  try clear hx28
                  try clear hx274_0
                  try clear hx281_0
                  try clear p274
                  try clear p281
                  try clear q274
                  try clear q281
                  obtain ⟨x4_1, x8_1, x10_1, rfl, HA, HK1, HO_4, HO_8, HO_9, HB⟩ := hrel
                  have hl4_1 := (Kd.R_reads' HO_4.out).1
                  rw [hl4_1] at HO_4
                  (try simp only [hl4_1])
                  (try simp only [hl4_1] at HO_8)
                  (try simp only [hl4_1] at HO_9)
                  cases gk with
                  | zero => exact absurd HA.out (by simp [nat_Div.l0])
                  | succ k1 =>
                    have H := HA.out
                    clear HA
                    simp only [nat_Div.l0] at H
                    by_cases c29 : x10_1 ≥ 0
                    · rw [if_pos c29] at H
                      have c29b0 : decide (0 ≤ x10_1) = true := decide_eq_true c29
                      (try simp only [hl4_1] at c29b0)
                      clear c29
                      replace H := Option.bind_eq_some_iff.mp H
                      obtain ⟨t305, A300, H⟩ := H
                      replace H : ((nat_less_at.f k1 x8_1 t289 t305 x10_1).bind fun bt306 => (if bt306.1 = true then ((nat_more_at.f k1 bt306.2 t289 x10_1).bind fun t308 => (if 0 ≤ x10_1 then (if x10_1 < (x4_1.length : Int) then (nat_Div.l0 k1 (x4_1.set (x10_1 : Int).toNat ((IntKind.u64.wrap (t305 - 1)) % 4294967296)) t282 t308 t289 (wrap64 (x10_1 - 1))) else (none)) else (none))) else (if 0 ≤ x10_1 then (if x10_1 < (x4_1.length : Int) then (nat_Div.l0 k1 (x4_1.set (x10_1 : Int).toNat ((t305) % 4294967296)) t282 bt306.2 t289 (wrap64 (x10_1 - 1))) else (none)) else (none)))) = some (r1, r2, r3) := H
                      have A30 := zm A300
                      clear A300
                      replace H := Option.bind_eq_some_iff.mp H
                      obtain ⟨⟨t306, t307⟩, A310, H⟩ := H
                      replace H : (if t306 = true then ((nat_more_at.f k1 t307 t289 x10_1).bind fun t308 => (if 0 ≤ x10_1 then (if x10_1 < (x4_1.length : Int) then (nat_Div.l0 k1 (x4_1.set (x10_1 : Int).toNat ((IntKind.u64.wrap (t305 - 1)) % 4294967296)) t282 t308 t289 (wrap64 (x10_1 - 1))) else (none)) else (none))) else (if 0 ≤ x10_1 then (if x10_1 < (x4_1.length : Int) then (nat_Div.l0 k1 (x4_1.set (x10_1 : Int).toNat ((t305) % 4294967296)) t282 t307 t289 (wrap64 (x10_1 - 1))) else (none)) else (none))) = some (r1, r2, r3) := H
                      have A31 := zm A310
                      clear A310
                      by_cases c32 : t306 = true
                      · subst c32
                        have H1 : ((nat_more_at.f k1 t307 t289 x10_1).bind fun t308 => (if 0 ≤ x10_1 then (if x10_1 < (x4_1.length : Int) then (nat_Div.l0 k1 (x4_1.set (x10_1 : Int).toNat ((IntKind.u64.wrap (t305 - 1)) % 4294967296)) t282 t308 t289 (wrap64 (x10_1 - 1))) else (none)) else (none))) = some (r1, r2, r3) := by rw [if_pos rfl] at H; exact H
                        clear H
                        have H := H1
                        clear H1
                        replace H := Option.bind_eq_some_iff.mp H
                        obtain ⟨t308, A330, H⟩ := H
                        replace H : (if 0 ≤ x10_1 then (if x10_1 < (x4_1.length : Int) then (nat_Div.l0 k1 (x4_1.set (x10_1 : Int).toNat ((IntKind.u64.wrap (t305 - 1)) % 4294967296)) t282 t308 t289 (wrap64 (x10_1 - 1))) else (none)) else (none)) = some (r1, r2, r3) := H
                        have A33 := zm A330
                        clear A330
                        by_cases c34 : 0 ≤ x10_1
                        · rw [if_pos c34] at H
                          have c34b0 : decide (0 ≤ x10_1) = true := decide_eq_true c34
                          (try simp only [hl4_1] at c34b0)
                          clear c34
                          by_cases c35 : x10_1 < (x4_1.length : Int)
                          · rw [if_pos c35] at H
                            have c35b0 : decide (x10_1 < (x4_1.length : Int)) = true := decide_eq_true c35
                            (try simp only [hl4_1] at c35b0)
                            clear c35
                            obtain ⟨y309, hy309⟩ : ∃ y_ : List Int, y_ = (x4_1.set (x10_1 : Int).toNat ((IntKind.u64.wrap (t305 - 1)) % 4294967296)) := ⟨_, rfl⟩
                            replace H : (nat_Div.l0 k1 y309 t282 t308 t289 (wrap64 (x10_1 - 1))) = some (r1, r2, r3) := by first | (rw [hy309]; with_reducible exact H) | (have H2_ := (Option.bind_some _ _).symm.trans H; rw [hy309]; with_reducible exact H2_) | (have H2_ := (Option.bind_some _ _).symm.trans H; with_reducible exact H2_) | with_reducible exact H | (rw [hy309]; exact H) | exact H
                            have Ny309 := zm hy309
                            clear hy309
                            have H' := zm H
                            clear H
                            obtain ⟨Ao37, co37, eo37⟩ := Kd.R_slice HO_8.out
                            subst eo37
                            obtain ⟨Ao38, co38, eo38⟩ := Kd.V_slice HO_9.out
                            subst eo38
                            have hgb_ := nat_guess_at.bound A30.out
                            have hmx_ := Kd.C_max (Kd.R_reads' HO_8.out).2.2
                            have hcl_ := (Kd.R_reads' HO_8.out).2.1
                            obtain ⟨jh_, hjh_⟩ : ∃ j_ : Int, (wrap64 ((wrap64 (x10_1 + (t289.length : Int))) + 1)) = j_ := ⟨_, rfl⟩
                            have hjhw_ : (IntKind.i64.wrap ((wrap64 (x10_1 + (t289.length : Int))) + 1)) = jh_ := (i64_w _).trans hjh_
                            have hjv_ : jh_ = x10_1 + (t289.length : Int) + 1 := hjh_.symm.trans (part_hi _ _ _ hgb_.1 hgb_.2 hmx_)
                            obtain ⟨i0_, hi0_, _, hsz_, _⟩ := info_parts info40
                            have hcut_ := cut_mid (P := Try.prog) 24 40 .i64 .i64 Try.underlying24 hi0_ 1 hsz_ Ao37 x8_1.length co37 x10_1 jh_ hgb_.1 (by omega) (by omega) hcl_
                            obtain ⟨pv_, hpv_⟩ : ∃ p_ : Value, p_ = .slice (if co37 = x10_1.toNat then Ao37 else (Ao37 : Option Addr).map (·.add (x10_1.toNat * 1))) (jh_.toNat - x10_1.toNat) (co37 - x10_1.toNat) := ⟨_, rfl⟩
                            simp only [← hpv_] at hcut_
                            have HPV_ : Aside0 (pv_ = partV (.slice Ao37 x8_1.length co37) x10_1.toNat (t289.length + 1)) := ⟨by rw [hpv_, show jh_.toNat - x10_1.toNat = t289.length + 1 by omega]; rfl⟩
                            clear hpv_ hjv_ hcl_ hmx_ hgb_ hsz_ hi0_
                            go_wp2_with (first | ((with_reducible refine gate_callee (f := 41) rfl ?_); refine goesL_ (some 76) rfl rfl Try.func41 (by kernel_rfl) rfl #[pv_, .slice Ao38 t289.length co38] rfl (by (try simp only [zl1, zl2, zl3]); first | done | rfl | (simp only [List.length_drop, List.length_take]; rfl)) ?_; (with_reducible refine (nat_guess_at.calls pv_ k1 _ _ x8_1 _ _ t289 x10_1 t305 _ HPV_.out ?side1 ?side2 ?side3 ?side4 A30.out).mono ?_); (case side1 => repeat (first | exact (Kd.R_reads' HO_8.out).2.2 | (with_reducible refine zc1 ?_ _) | (with_reducible refine zc2 ?_ _) | (with_reducible refine zc3 ?_))); (case side2 => exact (Kd.R_reads' HO_8.out).2.1); (case side3 => repeat (first | exact (Kd.V_reads' HO_9.out).2.2 | (with_reducible refine zc1 ?_ _) | (with_reducible refine zc2 ?_ _) | (with_reducible refine zc3 ?_))); (case side4 => exact (Kd.V_reads' HO_9.out).2.1); rintro e w' ⟨rfl, ⟨nd, rfl⟩⟩; refine ⟨_, rfl, ?_⟩; (try (rw [drewN_self wr]; generalize hq_ : World.drewN wr _ = wr; have n0_ : Aside0 (Kd.R (Kd.int .u32) 40 wr w.heap.size (fun k_ => (w.heap.size ≤ k_) ∧ some k_ ≠ (.slice Ao37 x8_1.length co37 : Value).ownBlock) (.slice Ao28 x4_1.length co28) x4_1) := ⟨by rw [← hq_]; exact (by (with_reducible repeat (first | apply zr1 | apply zr2 | apply zr3)); exact HO_4.out)⟩; have n1_ : Aside0 (Kd.R (Kd.int .u32) 40 wr w.heap.size (fun k_ => (w.heap.size ≤ k_) ∧ some k_ ≠ (.slice Ao28 x4_1.length co28 : Value).ownBlock) (.slice Ao37 x8_1.length co37) x8_1) := ⟨by rw [← hq_]; exact (by (with_reducible repeat (first | apply zr1 | apply zr2 | apply zr3)); exact HO_8.out)⟩; have n2_ : Aside0 (Kd.V (Kd.int .u32) 40 wr w.heap.size (fun k_ => (w.heap.size ≤ k_) ∧ some k_ ≠ (.slice Ao28 x4_1.length co28 : Value).ownBlock ∧ some k_ ≠ (.slice Ao37 x8_1.length co37 : Value).ownBlock) (.slice Ao38 t289.length co38) t289) := ⟨by rw [← hq_]; exact (by (with_reducible repeat (first | apply zv1 | apply zv2 | apply zv3)); exact HO_9.out)⟩; have n3_ : Aside0 (Below w.heap.size w wr) := ⟨by rw [← hq_]; exact (by repeat (first | (with_reducible first | exact HB.out | apply zb1 | apply zb2 | apply zb3) | exact HB.out))⟩; clear HO_4 HO_8 HO_9 HB hq_; have HO_4 := n0_; have HO_8 := n1_; have HO_9 := n2_; have HB := n3_; clear n0_ n1_ n2_ n3_))) | ((with_reducible refine gate_callee (f := 42) rfl ?_); refine goesL_ (some 80) rfl rfl Try.func42 (by kernel_rfl) rfl #[pv_, .slice Ao38 t289.length co38, .int .u64 t305] rfl (by (try simp only [zl1, zl2, zl3]); first | done | rfl | (simp only [List.length_drop, List.length_take]; rfl)) ?_; (with_reducible refine (nat_less_at.calls pv_ k1 (fun k_ => some k_ = (.slice Ao37 x8_1.length co37 : Value).ownBlock) (.slice Ao37 x8_1.length co37) x8_1 _ _ t289 t305 x10_1 true t307 w _ HPV_.out ?side1 ?side2 ?side3 ?side4 A31.out).mono ?_); (case side1 => repeat (first | (with_reducible first | exact HB.out | apply zb1 | apply zb2 | apply zb3) | exact HB.out)); (case side2 => exact Kd.R_tight rfl HO_8.out); (case side3 => exact Kd.C_kept_ownV (HO_9.out) (fun k_ hk_ hs_ => by first | exact (hk_.2.2) hs_ | simp_all)); (case side4 => exact (Kd.V_reads' HO_9.out).2.1); rintro e w39 ⟨rfl, hy0, hb, hkp⟩; refine ⟨_, rfl, ?_⟩; have n0_ := zm (Kd.R_mono (ok' := fun k_ => (w.heap.size ≤ k_) ∧ some k_ ≠ (.slice Ao37 x8_1.length co37 : Value).ownBlock) (Kd.R_keptB (HO_4.out) hkp (fun k_ hk_ hs_ => by first | exact (hk_.2) hs_ | simp_all)) (fun k_ hk_ => by first | exact ⟨hk_.1.1, hk_.1.2⟩ | simp_all)); have n1_ := zm (Kd.R_reok rfl hy0 (fun k_ e_ => HO_8.out.1 k_ e_)); have n2_ := zm (Kd.V_mono (ok' := fun k_ => (w.heap.size ≤ k_) ∧ some k_ ≠ (.slice Ao28 x4_1.length co28 : Value).ownBlock ∧ some k_ ≠ (.slice Ao37 x8_1.length co37 : Value).ownBlock) (Kd.V_keptB (HO_9.out) hkp (fun k_ hk_ hs_ => by first | exact (hk_.2.2) hs_ | simp_all)) (fun k_ hk_ => by first | exact ⟨hk_.1.1, hk_.1.2.1, hk_.1.2.2⟩ | simp_all)); have n3_ := zm (hb); clear HO_4; clear HO_8; clear HO_9; clear HB; have HO_4 := n0_; have HO_8 := n1_; have HO_9 := n2_; have HB := n3_; clear n0_ n1_ n2_ n3_; (try clear hb); (try clear hkp); (try clear hy0)) | ((with_reducible refine gate_callee (f := 43) rfl ?_); refine goesL_ (some 85) rfl rfl Try.func43 (by kernel_rfl) rfl #[pv_, .slice Ao38 t289.length co38] rfl (by (try simp only [zl1, zl2, zl3]); first | done | rfl | (simp only [List.length_drop, List.length_take]; rfl)) ?_; (with_reducible refine (nat_more_at.calls pv_ k1 (fun k_ => some k_ = (.slice Ao37 x8_1.length co37 : Value).ownBlock) (.slice Ao37 x8_1.length co37) t307 _ _ t289 x10_1 t308 w _ HPV_.out ?side1 ?side2 ?side3 ?side4 A33.out).mono ?_); (case side1 => repeat (first | (with_reducible first | exact HB.out | apply zb1 | apply zb2 | apply zb3) | exact HB.out)); (case side2 => exact Kd.R_tight rfl HO_8.out); (case side3 => exact Kd.C_kept_ownV (HO_9.out) (fun k_ hk_ hs_ => by first | exact (hk_.2.2) hs_ | simp_all)); (case side4 => exact (Kd.V_reads' HO_9.out).2.1); rintro e w40 ⟨rfl, hy0, hb, hkp⟩; refine ⟨_, rfl, ?_⟩; have n0_ := zm (Kd.R_mono (ok' := fun k_ => (w.heap.size ≤ k_) ∧ some k_ ≠ (.slice Ao37 x8_1.length co37 : Value).ownBlock) (Kd.R_keptB (HO_4.out) hkp (fun k_ hk_ hs_ => by first | exact (hk_.2) hs_ | simp_all)) (fun k_ hk_ => by first | exact ⟨hk_.1.1, hk_.1.2⟩ | simp_all)); have n1_ := zm (Kd.R_reok rfl hy0 (fun k_ e_ => HO_8.out.1 k_ e_)); have n2_ := zm (Kd.V_mono (ok' := fun k_ => (w.heap.size ≤ k_) ∧ some k_ ≠ (.slice Ao28 x4_1.length co28 : Value).ownBlock ∧ some k_ ≠ (.slice Ao37 x8_1.length co37 : Value).ownBlock) (Kd.V_keptB (HO_9.out) hkp (fun k_ hk_ hs_ => by first | exact (hk_.2.2) hs_ | simp_all)) (fun k_ hk_ => by first | exact ⟨hk_.1.1, hk_.1.2.1, hk_.1.2.2⟩ | simp_all)); have n3_ := zm (hb); clear HO_4; clear HO_8; clear HO_9; clear HB; have HO_4 := n0_; have HO_8 := n1_; have HO_9 := n2_; have HB := n3_; clear n0_ n1_ n2_ n3_; (try clear hb); (try clear hkp); (try clear hy0); have p36 : 0 ≤ (x10_1 : Int) := of_decide_eq_true (by first | (with_reducible assumption) | assumption); have q36 : (x10_1 : Int) < ((x4_1.length : Int) : Int) := of_decide_eq_true (by first | (with_reducible assumption) | assumption); obtain ⟨go36, co36, eo36, gb36, gl36, cl36, HG36⟩ := Kd.R_form HO_4.out (by omega); (first | cases eo36 | (injection eo36 with ea_ en_ ec_; (first | subst ea_ | (injection ea_ with ea_; subst ea_)); subst ec_; clear en_)); have GB36 := zm gb36; have GG36 := zm HG36; clear gb36 gl36 HG36; obtain ⟨hx36_0, hf36_0⟩ := Kd.R_celln 0 HO_4.out (x10_1 : Int) p36 q36; replace p36 := eq_true p36; replace q36 := eq_true q36; obtain ⟨hy41_, hz41_⟩ := Kd.R_celln 0 HO_4.out (x10_1 : Int) (of_decide_eq_true (by first | (with_reducible assumption) | assumption)) (of_decide_eq_true (by first | (with_reducible assumption) | assumption)); have HP41 := Kd.R_putg HO_4.out (x10_1 : Int) ((IntKind.u64.wrap (t305 - 1)) % 4294967296)) | ((with_reducible refine gate_store (t := 40) (p := 90) rfl ?_); refine store_event (t := 40) (p := 90) (v := ?vo_w42) (w1 := (w40.setCell ⟨go36, (x10_1 : Int).toNat, none⟩ (.int .u32 ((IntKind.u64.wrap (t305 - 1)) % 4294967296)))) ?hg ?ho ?hn ?hr ?_; (case ho => rfl); (case hg => rfl); (case hn => rfl); (case hr => first | (go_simp; done) | (go_simp; rfl)); intro w42 hw; have hg : w40.grownBy w42 (some go36) := (by rw [hw]; exact HP41.2); have hp_ : Kd.R (Kd.int .u32) 40 w42 w.heap.size (fun k_ => (w.heap.size ≤ k_) ∧ some k_ ≠ (.slice Ao37 x8_1.length co37 : Value).ownBlock) (.slice (some ⟨go36, 0, none⟩) x4_1.length co28) y309 := (by rw [hw, Ny309.out]; exact HP41.1); clear HP41; have n0_ := zm (hp_); have n1_ := zm (Kd.R_after (v := (.slice (some ⟨go36, 0, none⟩) x4_1.length co28)) (v1 := (.slice (some ⟨go36, 0, none⟩) x4_1.length co28)) (ok := (fun k_ => (w.heap.size ≤ k_))) (by (with_reducible repeat (first | apply zr1 | apply zr2 | apply zr3)); exact HO_8.out) hg (.inl rfl)); have n2_ := zm (Kd.V_afterv (v := (.slice (some ⟨go36, 0, none⟩) x4_1.length co28)) (v1 := (.slice (some ⟨go36, 0, none⟩) x4_1.length co28)) (ok := (fun k_ => (w.heap.size ≤ k_) ∧ some k_ ≠ (.slice Ao37 x8_1.length co37 : Value).ownBlock)) (by (with_reducible repeat (first | apply zv1 | apply zv2 | apply zv3)); exact Kd.V_mono HO_9.out (fun _ hk => ⟨⟨hk.1, hk.2.2⟩, hk.2.1⟩)) hg (.inl rfl)); have n3_ := zm ((by rw [hw]; exact below_set (HB.out) GB36.out : Below w.heap.size w w42)); clear HO_4; clear HO_8; clear HO_9; clear HB; have HO_4 := n0_; have HO_8 := n1_; have HO_9 := n2_; have HB := n3_; clear n0_ n1_ n2_ n3_; clear hg hw hp_))
                            (try simp only [← hl4_1])
                            go_roundg k1
                            case measure => have := HK1.out; omega
                            case rel => exact ⟨(y309), (t308), (wrap64 (x10_1 - 1)), (by first | rfl | (simp; done) | (simp [*]; done)), H', ⟨by have := HK1.out; omega⟩, ⟨by (try simp only [hl4_1]); (with_reducible repeat (first | apply zr1 | apply zr2 | apply zr3)); (first | exact HO_4.out | exact Kd.R_mono HO_4.out (fun k_ h_ => h_.1))⟩, ⟨by (try simp only [hl4_1]); (with_reducible repeat (first | apply zr1 | apply zr2 | apply zr3)); (first | exact HO_8.out | exact Kd.R_mono HO_8.out (fun k_ h_ => h_.1))⟩, ⟨by (try simp only [hl4_1]); (with_reducible repeat (first | apply zv1 | apply zv2 | apply zv3)); exact Kd.V_mono HO_9.out (fun _ hk => ⟨hk.1.1, ⟨hk.2, hk.1.2⟩⟩)⟩, ⟨by repeat (first | (with_reducible first | exact HB.out | apply zb1 | apply zb2 | apply zb3) | exact HB.out)⟩⟩
                          · rw [if_neg c35] at H
                            exact absurd H (by simp)
                        · rw [if_neg c34] at H
                          exact absurd H (by simp)
                      · replace c32 := Bool.eq_false_iff.mpr c32
                        subst c32
                        have H1 : (if 0 ≤ x10_1 then (if x10_1 < (x4_1.length : Int) then (nat_Div.l0 k1 (x4_1.set (x10_1 : Int).toNat ((t305) % 4294967296)) t282 t307 t289 (wrap64 (x10_1 - 1))) else (none)) else (none)) = some (r1, r2, r3) := by rw [if_neg (show ¬ (false = true) by decide)] at H; exact H
                        clear H
                        have H := H1
                        clear H1
                        by_cases c43 : 0 ≤ x10_1
                        · rw [if_pos c43] at H
                          have c43b0 : decide (0 ≤ x10_1) = true := decide_eq_true c43
                          (try simp only [hl4_1] at c43b0)
                          clear c43
                          by_cases c44 : x10_1 < (x4_1.length : Int)
                          · rw [if_pos c44] at H
                            have c44b0 : decide (x10_1 < (x4_1.length : Int)) = true := decide_eq_true c44
                            (try simp only [hl4_1] at c44b0)
                            clear c44
                            obtain ⟨y310, hy310⟩ : ∃ y_ : List Int, y_ = (x4_1.set (x10_1 : Int).toNat ((t305) % 4294967296)) := ⟨_, rfl⟩
                            replace H : (nat_Div.l0 k1 y310 t282 t307 t289 (wrap64 (x10_1 - 1))) = some (r1, r2, r3) := by first | (rw [hy310]; with_reducible exact H) | (have H2_ := (Option.bind_some _ _).symm.trans H; rw [hy310]; with_reducible exact H2_) | (have H2_ := (Option.bind_some _ _).symm.trans H; with_reducible exact H2_) | with_reducible exact H | (rw [hy310]; exact H) | exact H
                            have Ny310 := zm hy310
                            clear hy310
                            have H' := zm H
                            clear H
                            obtain ⟨Ao46, co46, eo46⟩ := Kd.R_slice HO_8.out
                            subst eo46
                            obtain ⟨Ao47, co47, eo47⟩ := Kd.V_slice HO_9.out
                            subst eo47
                            have hgb_ := nat_guess_at.bound A30.out
                            have hmx_ := Kd.C_max (Kd.R_reads' HO_8.out).2.2
                            have hcl_ := (Kd.R_reads' HO_8.out).2.1
                            obtain ⟨jh_, hjh_⟩ : ∃ j_ : Int, (wrap64 ((wrap64 (x10_1 + (t289.length : Int))) + 1)) = j_ := ⟨_, rfl⟩
                            have hjhw_ : (IntKind.i64.wrap ((wrap64 (x10_1 + (t289.length : Int))) + 1)) = jh_ := (i64_w _).trans hjh_
                            have hjv_ : jh_ = x10_1 + (t289.length : Int) + 1 := hjh_.symm.trans (part_hi _ _ _ hgb_.1 hgb_.2 hmx_)
                            obtain ⟨i0_, hi0_, _, hsz_, _⟩ := info_parts info40
                            have hcut_ := cut_mid (P := Try.prog) 24 40 .i64 .i64 Try.underlying24 hi0_ 1 hsz_ Ao46 x8_1.length co46 x10_1 jh_ hgb_.1 (by omega) (by omega) hcl_
                            obtain ⟨pv_, hpv_⟩ : ∃ p_ : Value, p_ = .slice (if co46 = x10_1.toNat then Ao46 else (Ao46 : Option Addr).map (·.add (x10_1.toNat * 1))) (jh_.toNat - x10_1.toNat) (co46 - x10_1.toNat) := ⟨_, rfl⟩
                            simp only [← hpv_] at hcut_
                            have HPV_ : Aside0 (pv_ = partV (.slice Ao46 x8_1.length co46) x10_1.toNat (t289.length + 1)) := ⟨by rw [hpv_, show jh_.toNat - x10_1.toNat = t289.length + 1 by omega]; rfl⟩
                            clear hpv_ hjv_ hcl_ hmx_ hgb_ hsz_ hi0_
                            go_wp2_with (first | ((with_reducible refine gate_callee (f := 41) rfl ?_); refine goesL_ (some 76) rfl rfl Try.func41 (by kernel_rfl) rfl #[pv_, .slice Ao47 t289.length co47] rfl (by (try simp only [zl1, zl2, zl3]); first | done | rfl | (simp only [List.length_drop, List.length_take]; rfl)) ?_; (with_reducible refine (nat_guess_at.calls pv_ k1 _ _ x8_1 _ _ t289 x10_1 t305 _ HPV_.out ?side1 ?side2 ?side3 ?side4 A30.out).mono ?_); (case side1 => repeat (first | exact (Kd.R_reads' HO_8.out).2.2 | (with_reducible refine zc1 ?_ _) | (with_reducible refine zc2 ?_ _) | (with_reducible refine zc3 ?_))); (case side2 => exact (Kd.R_reads' HO_8.out).2.1); (case side3 => repeat (first | exact (Kd.V_reads' HO_9.out).2.2 | (with_reducible refine zc1 ?_ _) | (with_reducible refine zc2 ?_ _) | (with_reducible refine zc3 ?_))); (case side4 => exact (Kd.V_reads' HO_9.out).2.1); rintro e w' ⟨rfl, ⟨nd, rfl⟩⟩; refine ⟨_, rfl, ?_⟩; (try (rw [drewN_self wr]; generalize hq_ : World.drewN wr _ = wr; have n0_ : Aside0 (Kd.R (Kd.int .u32) 40 wr w.heap.size (fun k_ => (w.heap.size ≤ k_) ∧ some k_ ≠ (.slice Ao46 x8_1.length co46 : Value).ownBlock) (.slice Ao28 x4_1.length co28) x4_1) := ⟨by rw [← hq_]; exact (by (with_reducible repeat (first | apply zr1 | apply zr2 | apply zr3)); exact HO_4.out)⟩; have n1_ : Aside0 (Kd.R (Kd.int .u32) 40 wr w.heap.size (fun k_ => (w.heap.size ≤ k_) ∧ some k_ ≠ (.slice Ao28 x4_1.length co28 : Value).ownBlock) (.slice Ao46 x8_1.length co46) x8_1) := ⟨by rw [← hq_]; exact (by (with_reducible repeat (first | apply zr1 | apply zr2 | apply zr3)); exact HO_8.out)⟩; have n2_ : Aside0 (Kd.V (Kd.int .u32) 40 wr w.heap.size (fun k_ => (w.heap.size ≤ k_) ∧ some k_ ≠ (.slice Ao28 x4_1.length co28 : Value).ownBlock ∧ some k_ ≠ (.slice Ao46 x8_1.length co46 : Value).ownBlock) (.slice Ao47 t289.length co47) t289) := ⟨by rw [← hq_]; exact (by (with_reducible repeat (first | apply zv1 | apply zv2 | apply zv3)); exact HO_9.out)⟩; have n3_ : Aside0 (Below w.heap.size w wr) := ⟨by rw [← hq_]; exact (by repeat (first | (with_reducible first | exact HB.out | apply zb1 | apply zb2 | apply zb3) | exact HB.out))⟩; clear HO_4 HO_8 HO_9 HB hq_; have HO_4 := n0_; have HO_8 := n1_; have HO_9 := n2_; have HB := n3_; clear n0_ n1_ n2_ n3_))) | ((with_reducible refine gate_callee (f := 42) rfl ?_); refine goesL_ (some 80) rfl rfl Try.func42 (by kernel_rfl) rfl #[pv_, .slice Ao47 t289.length co47, .int .u64 t305] rfl (by (try simp only [zl1, zl2, zl3]); first | done | rfl | (simp only [List.length_drop, List.length_take]; rfl)) ?_; (with_reducible refine (nat_less_at.calls pv_ k1 (fun k_ => some k_ = (.slice Ao46 x8_1.length co46 : Value).ownBlock) (.slice Ao46 x8_1.length co46) x8_1 _ _ t289 t305 x10_1 false t307 w _ HPV_.out ?side1 ?side2 ?side3 ?side4 A31.out).mono ?_); (case side1 => repeat (first | (with_reducible first | exact HB.out | apply zb1 | apply zb2 | apply zb3) | exact HB.out)); (case side2 => exact Kd.R_tight rfl HO_8.out); (case side3 => exact Kd.C_kept_ownV (HO_9.out) (fun k_ hk_ hs_ => by first | exact (hk_.2.2) hs_ | simp_all)); (case side4 => exact (Kd.V_reads' HO_9.out).2.1); rintro e w48 ⟨rfl, hy0, hb, hkp⟩; refine ⟨_, rfl, ?_⟩; have n0_ := zm (Kd.R_mono (ok' := fun k_ => (w.heap.size ≤ k_) ∧ some k_ ≠ (.slice Ao46 x8_1.length co46 : Value).ownBlock) (Kd.R_keptB (HO_4.out) hkp (fun k_ hk_ hs_ => by first | exact (hk_.2) hs_ | simp_all)) (fun k_ hk_ => by first | exact ⟨hk_.1.1, hk_.1.2⟩ | simp_all)); have n1_ := zm (Kd.R_reok rfl hy0 (fun k_ e_ => HO_8.out.1 k_ e_)); have n2_ := zm (Kd.V_mono (ok' := fun k_ => (w.heap.size ≤ k_) ∧ some k_ ≠ (.slice Ao28 x4_1.length co28 : Value).ownBlock ∧ some k_ ≠ (.slice Ao46 x8_1.length co46 : Value).ownBlock) (Kd.V_keptB (HO_9.out) hkp (fun k_ hk_ hs_ => by first | exact (hk_.2.2) hs_ | simp_all)) (fun k_ hk_ => by first | exact ⟨hk_.1.1, hk_.1.2.1, hk_.1.2.2⟩ | simp_all)); have n3_ := zm (hb); clear HO_4; clear HO_8; clear HO_9; clear HB; have HO_4 := n0_; have HO_8 := n1_; have HO_9 := n2_; have HB := n3_; clear n0_ n1_ n2_ n3_; (try clear hb); (try clear hkp); (try clear hy0); have p45 : 0 ≤ (x10_1 : Int) := of_decide_eq_true (by first | (with_reducible assumption) | assumption); have q45 : (x10_1 : Int) < ((x4_1.length : Int) : Int) := of_decide_eq_true (by first | (with_reducible assumption) | assumption); obtain ⟨go45, co45, eo45, gb45, gl45, cl45, HG45⟩ := Kd.R_form HO_4.out (by omega); (first | cases eo45 | (injection eo45 with ea_ en_ ec_; (first | subst ea_ | (injection ea_ with ea_; subst ea_)); subst ec_; clear en_)); have GB45 := zm gb45; have GG45 := zm HG45; clear gb45 gl45 HG45; obtain ⟨hx45_0, hf45_0⟩ := Kd.R_celln 0 HO_4.out (x10_1 : Int) p45 q45; replace p45 := eq_true p45; replace q45 := eq_true q45; obtain ⟨hy49_, hz49_⟩ := Kd.R_celln 0 HO_4.out (x10_1 : Int) (of_decide_eq_true (by first | (with_reducible assumption) | assumption)) (of_decide_eq_true (by first | (with_reducible assumption) | assumption)); have HP49 := Kd.R_putg HO_4.out (x10_1 : Int) ((t305) % 4294967296)) | ((with_reducible refine gate_store (t := 40) (p := 90) rfl ?_); refine store_event (t := 40) (p := 90) (v := ?vo_w50) (w1 := (w48.setCell ⟨go45, (x10_1 : Int).toNat, none⟩ (.int .u32 ((t305) % 4294967296)))) ?hg ?ho ?hn ?hr ?_; (case ho => rfl); (case hg => rfl); (case hn => rfl); (case hr => first | (go_simp; done) | (go_simp; rfl)); intro w50 hw; have hg : w48.grownBy w50 (some go45) := (by rw [hw]; exact HP49.2); have hp_ : Kd.R (Kd.int .u32) 40 w50 w.heap.size (fun k_ => (w.heap.size ≤ k_) ∧ some k_ ≠ (.slice Ao46 x8_1.length co46 : Value).ownBlock) (.slice (some ⟨go45, 0, none⟩) x4_1.length co28) y310 := (by rw [hw, Ny310.out]; exact HP49.1); clear HP49; have n0_ := zm (hp_); have n1_ := zm (Kd.R_after (v := (.slice (some ⟨go45, 0, none⟩) x4_1.length co28)) (v1 := (.slice (some ⟨go45, 0, none⟩) x4_1.length co28)) (ok := (fun k_ => (w.heap.size ≤ k_))) (by (with_reducible repeat (first | apply zr1 | apply zr2 | apply zr3)); exact HO_8.out) hg (.inl rfl)); have n2_ := zm (Kd.V_afterv (v := (.slice (some ⟨go45, 0, none⟩) x4_1.length co28)) (v1 := (.slice (some ⟨go45, 0, none⟩) x4_1.length co28)) (ok := (fun k_ => (w.heap.size ≤ k_) ∧ some k_ ≠ (.slice Ao46 x8_1.length co46 : Value).ownBlock)) (by (with_reducible repeat (first | apply zv1 | apply zv2 | apply zv3)); exact Kd.V_mono HO_9.out (fun _ hk => ⟨⟨hk.1, hk.2.2⟩, hk.2.1⟩)) hg (.inl rfl)); have n3_ := zm ((by rw [hw]; exact below_set (HB.out) GB45.out : Below w.heap.size w w50)); clear HO_4; clear HO_8; clear HO_9; clear HB; have HO_4 := n0_; have HO_8 := n1_; have HO_9 := n2_; have HB := n3_; clear n0_ n1_ n2_ n3_; clear hg hw hp_))
                            (try simp only [← hl4_1])
                            go_roundg k1
                            case measure => have := HK1.out; omega
                            case rel => exact ⟨(y310), (t307), (wrap64 (x10_1 - 1)), (by first | rfl | (simp; done) | (simp [*]; done)), H', ⟨by have := HK1.out; omega⟩, ⟨by (try simp only [hl4_1]); (with_reducible repeat (first | apply zr1 | apply zr2 | apply zr3)); (first | exact HO_4.out | exact Kd.R_mono HO_4.out (fun k_ h_ => h_.1))⟩, ⟨by (try simp only [hl4_1]); (with_reducible repeat (first | apply zr1 | apply zr2 | apply zr3)); (first | exact HO_8.out | exact Kd.R_mono HO_8.out (fun k_ h_ => h_.1))⟩, ⟨by (try simp only [hl4_1]); (with_reducible repeat (first | apply zv1 | apply zv2 | apply zv3)); exact Kd.V_mono HO_9.out (fun _ hk => ⟨hk.1.1, ⟨hk.2, hk.1.2⟩⟩)⟩, ⟨by repeat (first | (with_reducible first | exact HB.out | apply zb1 | apply zb2 | apply zb3) | exact HB.out)⟩⟩
                          · rw [if_neg c44] at H
                            exact absurd H (by simp)
                        · rw [if_neg c43] at H
                          exact absurd H (by simp)
                    · rw [if_neg c29] at H
                      have c29b0 : decide (0 ≤ x10_1) = false := decide_eq_false c29
                      (try simp only [hl4_1] at c29b0)
                      clear c29
                      replace H := Option.bind_eq_some_iff.mp H
                      obtain ⟨t295, A510, H⟩ := H
                      replace H : (if 0 ≤ (t289.length : Int) then (if (t289.length : Int) ≤ (x8_1.length : Int) then ((nat_back.f k1 (x8_1.take ((t289.length : Int) : Int).toNat) t282).bind fun t302 => (some (t295, t302, true))) else (none)) else (none)) = some (r1, r2, r3) := H
                      have A51 := zm A510
                      clear A510
                      by_cases c52 : 0 ≤ (t289.length : Int)
                      · rw [if_pos c52] at H
                        have c52b0 := eq_true c52
                        have c52b1 : decide (0 ≤ (t289.length : Int)) = true := decide_eq_true c52
                        (try simp only [hl4_1] at c52b1)
                        clear c52
                        by_cases c53 : (t289.length : Int) ≤ (x8_1.length : Int)
                        · rw [if_pos c53] at H
                          have c53b0 := eq_true c53
                          have c53b1 : decide ((t289.length : Int) ≤ (x8_1.length : Int)) = true := decide_eq_true c53
                          (try simp only [hl4_1] at c53b1)
                          clear c53
                          obtain ⟨y298, hy298⟩ : ∃ y_ : List Int, y_ = (x8_1.take ((t289.length : Int) : Int).toNat) := ⟨_, rfl⟩
                          replace H : ((nat_back.f k1 y298 t282).bind fun t302 => (some (t295, t302, true))) = some (r1, r2, r3) := by first | (rw [hy298]; with_reducible exact H) | (have H2_ := (Option.bind_some _ _).symm.trans H; rw [hy298]; with_reducible exact H2_) | (have H2_ := (Option.bind_some _ _).symm.trans H; with_reducible exact H2_) | with_reducible exact H | (rw [hy298]; exact H) | exact H
                          have Ny298 := zm hy298
                          clear hy298
                          replace H := Option.bind_eq_some_iff.mp H
                          obtain ⟨t302, A540, H⟩ := H
                          replace H : (some (t295, t302, true)) = some (r1, r2, r3) := H
                          have A54 := zm A540
                          clear A540
                          simp only [Option.some.injEq, Prod.mk.injEq] at H
                          obtain ⟨rfl, rfl, rfl⟩ := H
                          try go_wp2
                          have n0_ := zm (zr3 HO_4.out)
                          have n1_ := zm (zr3 HO_8.out)
                          have n2_ := zm (zv3 HO_9.out)
                          have n3_ := zm (zb3 HB.out)
                          clear HO_4
                          clear HO_8
                          clear HO_9
                          clear HB
                          have HO_4 := n0_
                          have HO_8 := n1_
                          have HO_9 := n2_
                          have HB := n3_
                          clear n0_ n1_ n2_ n3_
                          obtain ⟨Ao56, co56, eo56⟩ := Kd.V_slice HO_9.out
                          (first | subst eo56 | (injection eo56 with f1_ f2_ f3_; have f4_ := f1_.symm; have f5_ := f3_.symm; clear f1_ f2_ f3_; subst f4_; subst f5_))
                          obtain ⟨Ao58, co58, eo58⟩ := Kd.R_slice HO_8.out
                          (first | subst eo58 | (injection eo58 with f1_ f2_ f3_; have f4_ := f1_.symm; have f5_ := f3_.symm; clear f1_ f2_ f3_; subst f4_; subst f5_))
                          have q57 : ((t289.length : Int) : Int) ≤ ((x8_1.length : Int) : Int) := of_decide_eq_true (by first | (with_reducible assumption) | assumption)
                          obtain ⟨i057, hi057, _, hsz57, _⟩ := info_parts info40
                          have hroom57 : x8_1.length ≤ co58 := (Kd.R_reads' HO_8.out).2.1
                          have hC57 : Kd.C (Kd.int .u32) _ Ao58 x8_1.length x8_1 := (Kd.R_reads' HO_8.out).2.2
                          have hcut57 := cut_to (P := Try.prog) 24 40 .i64 Try.underlying24 hi057 Ao58 x8_1.length co58 (t289.length : Int) (of_decide_eq_true (by first | (with_reducible assumption) | assumption)) q57 hroom57
                          have hr57 := Kd.C_take (m := ((t289.length : Int) : Int).toNat) hC57 (by omega)
                          have hy57 : y298.length = ((t289.length : Int) : Int).toNat := (by rw [Ny298.out, List.length_take]; omega)
                          rw [← Ny298.out] at hr57
                          rw [← hy57] at hcut57
                          have HR301 := zm hr57
                          have HC301 := zm (show y298.length ≤ co58 from by omega)
                          clear hr57 hC57 hroom57 hi057 hsz57
                          have KY57 := zm hy57
                          clear hy57
                          have KL57 := zm (show ((t289.length : Int) : Int).toNat ≤ x8_1.length from by omega)
                          replace q57 := eq_true q57
                          refine start_ (n := 11) (S := fun w' => True) (ds := []) #[false, false, false, false, false, false, false, false, false, false, false] (by kernel_rfl) rfl rfl trivial (fun hHeld => ?_); refine with_tabW nat_Div.tab20 nat_Div.bits20 (fun HT_ HW_ => ?_)
                          generalize wr.drew = w55 at HO_4 HO_8 HO_9 HB HR301 hHeld ⊢
                          refine pure_ (i := 0) (N := some 91) (v := ?_) (a' := ?_) #[true, false, false, false, false, false, false, false, false, false, false] rfl rfl (any_of HT_.out (by kernel_rfl)) (fun _ _ _ h => h) (Or.inl ⟨by rfl, ?_⟩) ?_ ?_
                          rotate_left
                          · intro w'
                            go_simp
                            with_reducible rfl
                          rotate_left
                          · simp only [Act.put, List.setIfInBounds_toArray, List.set_cons_zero, List.set_cons_succ, i64_w, i32_w]
                            rfl
                          refine pure_ (i := 2) (N := some 93) (v := ?_) (a' := ?_) #[true, false, true, false, false, false, false, false, false, false, false] rfl rfl (any_of HT_.out (by kernel_rfl)) (fun _ _ _ h => h) (Or.inl ⟨by rfl, ?_⟩) ?_ ?_
                          rotate_left
                          · intro w'
                            go_simp
                            with_reducible rfl
                          rotate_left
                          · simp only [Act.put, List.setIfInBounds_toArray, List.set_cons_zero, List.set_cons_succ, i64_w, i32_w]
                            rfl
                          refine pure_ (i := 3) (N := some 94) (v := ?_) (a' := ?_) #[true, false, true, true, false, false, false, false, false, false, false] rfl rfl (any_of HT_.out (by kernel_rfl)) (fun _ _ _ h => h) (Or.inl ⟨by rfl, ?_⟩) ?_ ?_
                          rotate_left
                          · intro w'
                            go_simp
                            with_reducible rfl
                          rotate_left
                          · simp only [Act.put, List.setIfInBounds_toArray, List.set_cons_zero, List.set_cons_succ, i64_w, i32_w]
                            rfl
                          refine pure_ (i := 4) (N := some 95) (v := ?_) (a' := ?_) #[true, false, true, true, true, false, false, false, false, false, false] rfl rfl (any_of HT_.out (by kernel_rfl)) (fun _ _ _ h => h) (Or.inl ⟨by rfl, ?_⟩) ?_ ?_
                          rotate_left
                          · intro w'
                            go_simp
                            with_reducible rfl
                          rotate_left
                          · simp only [Act.put, List.setIfInBounds_toArray, List.set_cons_zero, List.set_cons_succ, i64_w, i32_w]
                            rfl
                          refine pure_ (i := 5) (N := some 96) (v := ?_) (a' := ?_) #[true, false, true, true, true, true, false, false, false, false, false] rfl rfl (any_of HT_.out (by kernel_rfl)) (fun _ _ _ h => h) (Or.inl ⟨by rfl, ?_⟩) ?_ ?_
                          rotate_left
                          · intro w'
                            go_simp
                            with_reducible rfl
                          rotate_left
                          · simp only [Act.put, List.setIfInBounds_toArray, List.set_cons_zero, List.set_cons_succ, i64_w, i32_w]
                            rfl
                          refine pure_ (i := 6) (N := some 97) (v := ?_) (a' := ?_) #[true, false, true, true, true, true, true, false, false, false, false] rfl rfl (any_of HT_.out (by kernel_rfl)) (fun _ _ _ h => h) (Or.inl ⟨by rfl, ?_⟩) ?_ ?_
                          rotate_left
                          · intro w'
                            go_simp
                            with_reducible rfl
                          rotate_left
                          · simp only [Act.put, List.setIfInBounds_toArray, List.set_cons_zero, List.set_cons_succ, i64_w, i32_w]
                            rfl
                          refine one_ (i := 1) (N := some 92) #[true, true, true, true, true, true, true, false, false, false, false] rfl rfl (one_of HT_.out (by kernel_rfl)) (by decide) (fun K hK => ?_)
                          refine goes_ Try.func29 (by kernel_rfl) rfl #[.slice Ao28 x4_1.length co28] (by rfl) rfl rfl (by (try simp only [zl1, zl2, zl3]); first | done | rfl | (simp only [List.length_drop, List.length_take]; rfl)) ?_
                          with_reducible refine (nat_plain_sh.calls k1 (fun k_ => some k_ = (.slice Ao28 x4_1.length co28 : Value).ownBlock) _ _ x4_1 t295 _ ?side1 A51.out).mono ?_
                          (case side1 => exact Kd.R_V (Kd.R_tight rfl (HO_4.out)))
                          rintro e w59 ⟨v296, rfl, ho0, hb⟩
                          refine ⟨_, rfl, ?_⟩
                          have n0_ := zm (Kd.R_below (by (with_reducible repeat (first | apply zr1 | apply zr2 | apply zr3)); exact HO_4.out) hb)
                          have n1_ := zm (Kd.R_below (by (with_reducible repeat (first | apply zr1 | apply zr2 | apply zr3)); exact HO_8.out) hb)
                          have n2_ := zm (Kd.V_below (by (with_reducible repeat (first | apply zv1 | apply zv2 | apply zv3)); exact HO_9.out) hb)
                          have n3_ := zm (Kd.V_lower (Kd.V_mono (ok' := fun k_ => (w.heap.size ≤ k_) ∧ some k_ ≠ (.slice Ao58 x8_1.length co58 : Value).ownBlock) ho0 (fun k_ hk_ => ⟨Or.elim hk_ (fun hs_ => ((HO_4.out).1 k_ hs_.symm).1) (fun hn_ => (Nat.le_trans (below_size (by repeat (first | (with_reducible first | exact HB.out | apply zb1 | apply zb2 | apply zb3) | exact HB.out))) hn_)), Or.elim hk_ (fun hs_ => ((HO_4.out).1 k_ hs_.symm).2) (fun hn_ => (Kd.fresh' (Kd.R_lt (by (with_reducible repeat (first | apply zr1 | apply zr2 | apply zr3)); exact HO_8.out)) k_ hn_))⟩)) (below_size (by repeat (first | (with_reducible first | exact HB.out | apply zb1 | apply zb2 | apply zb3) | exact HB.out))))
                          have n4_ := zm (Kd.C_below (by repeat (first | (with_reducible exact HR301.out) | (with_reducible refine zc1 ?_ _) | (with_reducible refine zc2 ?_ _) | (with_reducible refine zc3 ?_) | exact HR301.out)) hb)
                          have n5_ := zm (below_step (by repeat (first | (with_reducible first | exact HB.out | apply zb1 | apply zb2 | apply zb3) | exact HB.out)) hb)
                          clear HO_4
                          clear HO_8
                          clear HO_9
                          clear HR301
                          clear HB
                          have HO_4 := n0_
                          have HO_8 := n1_
                          have HO_9 := n2_
                          have HO297 := n3_
                          have HR301 := n4_
                          have HB := n5_
                          clear n0_ n1_ n2_ n3_ n4_ n5_
                          (try clear hb)
                          (try clear hb2)
                          (try clear hk)
                          (try clear hi)
                          (try clear ho0)
                          (try clear A51)
                          refine hK.out _ _ trivial (fun hHeld => ?_)
                          clear hK K
                          refine norm_ (a' := ?_) ?_ ?_
                          rotate_left
                          · show Act.put _ (some 92) _ = _
                            simp only [Act.put, List.setIfInBounds_toArray, List.set_cons_zero, List.set_cons_succ, i64_w, i32_w]
                            rfl
                          refine one_ (i := 7) (N := some 98) #[true, true, true, true, true, true, true, true, false, false, false] rfl rfl (one_of HT_.out (by kernel_rfl)) (by decide) (fun K hK => ?_)
                          refine goes_ Try.func44 (by kernel_rfl) rfl #[.slice Ao58 y298.length co58, .int .i64 t282] (by rfl) rfl rfl (by (try simp only [zl1, zl2, zl3]); first | done | rfl | (simp only [List.length_drop, List.length_take]; rfl)) ?_
                          with_reducible refine (nat_back.calls k1 _ _ y298 t282 t302 _ ?side1 ?side2 A54.out).mono ?_
                          (case side1 => repeat (first | exact (by repeat (first | (with_reducible exact HR301.out) | (with_reducible refine zc1 ?_ _) | (with_reducible refine zc2 ?_ _) | (with_reducible refine zc3 ?_) | exact HR301.out)) | (with_reducible refine zc1 ?_ _) | (with_reducible refine zc2 ?_ _) | (with_reducible refine zc3 ?_)))
                          (case side2 => exact HC301.out)
                          rintro e w60 ⟨v303, rfl, ho0, hb⟩
                          refine ⟨_, rfl, ?_⟩
                          have n0_ := zm (Kd.R_elder' (by (with_reducible repeat (first | apply zr1 | apply zr2 | apply zr3)); exact HO_4.out) (Kd.R_base ho0) hb)
                          have n1_ := zm (Kd.R_elder' (by (with_reducible repeat (first | apply zr1 | apply zr2 | apply zr3)); exact HO_8.out) (Kd.R_base ho0) hb)
                          have n2_ := zm (Kd.V_elder' (by (with_reducible repeat (first | apply zv1 | apply zv2 | apply zv3)); exact HO_9.out) (Kd.R_base ho0) hb)
                          have n3_ := zm (Kd.V_elder' (by (with_reducible repeat (first | apply zv1 | apply zv2 | apply zv3)); exact HO297.out) (Kd.R_base ho0) hb)
                          have n4_ := zm (Kd.R_lower (Kd.R_new' (Kd.R_new' (Kd.R_newM (M := fun k_ => (w.heap.size ≤ k_)) ho0 (below_size (by repeat (first | (with_reducible first | exact HB.out | apply zb1 | apply zb2 | apply zb3) | exact HB.out))) (fun k_ h_ => h_)) (Kd.R_lt (by (with_reducible repeat (first | apply zr1 | apply zr2 | apply zr3)); exact HO_4.out))) (Kd.R_lt (by (with_reducible repeat (first | apply zr1 | apply zr2 | apply zr3)); exact HO_8.out))) (below_size (by repeat (first | (with_reducible first | exact HB.out | apply zb1 | apply zb2 | apply zb3) | exact HB.out))))
                          have n5_ := zm (Kd.C_below (by repeat (first | (with_reducible exact HR301.out) | (with_reducible refine zc1 ?_ _) | (with_reducible refine zc2 ?_ _) | (with_reducible refine zc3 ?_) | exact HR301.out)) hb)
                          have n6_ := zm (below_step (by repeat (first | (with_reducible first | exact HB.out | apply zb1 | apply zb2 | apply zb3) | exact HB.out)) hb)
                          clear HO_4
                          clear HO_8
                          clear HO_9
                          clear HO297
                          clear HR301
                          clear HB
                          have HO_4 := n0_
                          have HO_8 := n1_
                          have HO_9 := n2_
                          have HO297 := n3_
                          have HO304 := n4_
                          have HR301 := n5_
                          have HB := n6_
                          clear n0_ n1_ n2_ n3_ n4_ n5_ n6_
                          (try clear hb)
                          (try clear hb2)
                          (try clear hk)
                          (try clear hi)
                          (try clear ho0)
                          (try clear A54)
                          refine hK.out _ _ trivial (fun hHeld => ?_)
                          clear hK K
                          refine norm_ (a' := ?_) ?_ ?_
                          rotate_left
                          · show Act.put _ (some 98) _ = _
                            simp only [Act.put, List.setIfInBounds_toArray, List.set_cons_zero, List.set_cons_succ, i64_w, i32_w]
                            rfl
                          refine pure_ (i := 8) (N := some 4) (v := ?_) (a' := ?_) #[true, true, true, true, true, true, true, true, true, false, false] rfl rfl (any_of HT_.out (by kernel_rfl)) (fun _ _ _ h => h) (Or.inl ⟨by rfl, ?_⟩) ?_ ?_
                          rotate_left
                          · intro w'
                            go_simp
                            with_reducible rfl
                          rotate_left
                          · simp only [Act.put, List.setIfInBounds_toArray, List.set_cons_zero, List.set_cons_succ, i64_w, i32_w]
                            rfl
                          refine pure_ (i := 9) (N := some 5) (v := ?_) (a' := ?_) #[true, true, true, true, true, true, true, true, true, true, false] rfl rfl (any_of HT_.out (by kernel_rfl)) (fun _ _ _ h => h) (Or.inl ⟨by rfl, ?_⟩) ?_ ?_
                          rotate_left
                          · intro w'
                            go_simp
                            with_reducible rfl
                          rotate_left
                          · simp only [Act.put, List.setIfInBounds_toArray, List.set_cons_zero, List.set_cons_succ, i64_w, i32_w]
                            rfl
                          refine pure_ (i := 10) (N := some 6) (v := ?_) (a' := ?_) #[true, true, true, true, true, true, true, true, true, true, true] rfl rfl (any_of HT_.out (by kernel_rfl)) (fun _ _ _ h => h) (Or.inl ⟨by rfl, ?_⟩) ?_ ?_
                          rotate_left
                          · intro w'
                            go_simp
                            with_reducible rfl
                          rotate_left
                          · simp only [Act.put, List.setIfInBounds_toArray, List.set_cons_zero, List.set_cons_succ, i64_w, i32_w]
                            rfl
                          refine done_ (done_of HT_.out (by kernel_rfl)) ?_
                          try go_wp2
                          go_ret3
                          exact ⟨_, _, by first | rfl | (simp [errW_none, errW_some] <;> rfl) | (simp only [← hji12, ← hji19]; first | rfl | (simp [errW_none, errW_some] <;> rfl)) | (simp [*, errW_none, errW_some] <;> rfl), by (with_reducible repeat (first | apply zv1 | apply zv2 | apply zv3)); exact Kd.V_mono HO297.out (fun _ hk => ⟨hk.1.1, hk.2⟩), by (with_reducible repeat (first | apply zr1 | apply zr2 | apply zr3)); exact Kd.R_mono HO304.out (fun _ hk => hk.1.1.1), by repeat (first | (with_reducible first | exact HB.out | apply zb1 | apply zb2 | apply zb3) | exact HB.out)⟩
                        · rw [if_neg c53] at H
                          exact absurd H (by simp)
                      · rw [if_neg c52] at H
                        exact absurd H (by simp)
              · rw [if_neg c21] at H
                exact absurd H (by simp)
            · rw [if_neg c20] at H
              exact absurd H (by simp)
          · rw [if_neg c14] at H
            exact absurd H (by simp)
        · rw [if_neg c13] at H
          exact absurd H (by simp)

end Go.Proofs.Ytlmjbhhapllfgaa.A
