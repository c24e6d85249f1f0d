-- a text of this claim
import Derived.Test.YtlmjbhhapllfgaaAx10
import Derived.Test.YtlmjbhhapllfgaaAx11
import Derived.Test.YtlmjbhhapllfgaaAx3
import Derived.Test.YtlmjbhhapllfgaaAx4
import Derived.Test.YtlmjbhhapllfgaaAx9
import Derived.Test.YtlmjbhhapllfgaaAx0
namespace Go.Proofs.Ytlmjbhhapllfgaa.A
open Go.RowKit Go.Proofs.YtlmjbhhapllfgaaW.PrintWords Go.Proofs.YtlmjbhhapllfgaaW.PrintLast Go.Proofs.YtlmjbhhapllfgaaW.PrintMore
attribute [local go_sem] max2_int min2_int max_two min_two max_three min_three max_four min_four   -- for this text's walks alone
set_option linter.unusedVariables false
set_option linter.unusedSimpArgs false

/-! ### apostillelaw7_NatOwn: function 8 -/
mutual
def apostillelaw7_NatOwn.j0 : Nat → List Int → List Int → Bool → Option (Bool)
  | 0, _, _, _ => none
  | k + 1, x0, x1, x28 => if x28 = true then (some true) else ((some (([] : List Int) : List Int)).bind fun y313 => (if y313.length + x0.length < 35184372088832 then ((some (y313 ++ x0 : List Int)).bind fun y316 => ((some (([] : List Int) : List Int)).bind fun y319 => (if y319.length + x1.length < 35184372088832 then ((some (y319 ++ x1 : List Int)).bind fun y322 => ((nat_Add.f k y316 y322).bind fun t325 => ((nat_Mul.f k y316 y322).bind fun t328 => ((nat_Sub.f k y316 y322).bind fun bt331 => ((nat_Div.f k y316 y322).bind fun bt335 => (apostillelaw7_NatOwn.l0 k x0 x1 y316 y322 t325 bt335.2.1 0)))))) else (none)))) else (none)))
def apostillelaw7_NatOwn.l0 : Nat → List Int → List Int → List Int → List Int → List Int → List Int → Int → Option (Bool)
  | 0, _, _, _, _, _, _, _ => none
  | k + 1, x0, x1, x5, x6, x7, x9, x11 => if x11 < (x7.length : Int) then (if 0 ≤ x11 then (apostillelaw7_NatOwn.l0 k x0 x1 x5 x6 (x7.set (x11 : Int).toNat (((rd x7 x11) + 1) % 4294967296)) x9 (wrap64 (x11 + 1))) else (none)) else (apostillelaw7_NatOwn.l1 k x0 x1 x5 x6 x9 0)
def apostillelaw7_NatOwn.l1 : Nat → List Int → List Int → List Int → List Int → List Int → Int → Option (Bool)
  | 0, _, _, _, _, _, _ => none
  | k + 1, x0, x1, x5, x6, x9, x12 => if x12 < (x9.length : Int) then (if 0 ≤ x12 then (apostillelaw7_NatOwn.l1 k x0 x1 x5 x6 (x9.set (x12 : Int).toNat (((rd x9 x12) + 1) % 4294967296)) (wrap64 (x12 + 1))) else (none)) else ((apostillelaw7_same.f k x5 x0).bind fun t346 => (if t346 = true then ((apostillelaw7_same.f k x6 x1).bind fun t347 => (if t347 = true then ((apostillelaw7_known.f k).bind fun t348 => (some t348)) else (some false))) else (some false)))
end
def apostillelaw7_NatOwn.f (k : Nat) (l0 : List Int) (l1 : List Int) : Option (Bool) := (apostilleref7_Is.f l0).bind fun t311 => (if t311 = true then ((apostilleref7_Is.f l1).bind fun t312 => (if t312 = true then (apostillelaw7_NatOwn.j0 k l0 l1 (decide ((wrap64 ((l0.length : Int) + (l1.length : Int))) > 200))) else (apostillelaw7_NatOwn.j0 k l0 l1 true))) else (apostillelaw7_NatOwn.j0 k l0 l1 true))
set_option maxHeartbeats 8000000 in
set_option maxRecDepth 100000 in
theorem apostillelaw7_NatOwn.calls (k : Nat) (A0 : Option Addr) (c0 : Nat) (l0 : List Int) (A1 : Option Addr) (c1 : Nat) (l1 : List Int) (r : Bool) (w : World) (hr0 : Kd.C (Kd.int .u32) w A0 l0.length l0) (hc0 : l0.length ≤ c0) (hr1 : Kd.C (Kd.int .u32) w A1 l1.length l1) (hc1 : l1.length ≤ c1) (hrT : r = true) (h : apostillelaw7_NatOwn.f k l0 l1 = some r) :
    Calls Try.prog 8 #[.slice A0 l0.length c0, .slice A1 l1.length c1] w fun e w' => e = .returned (.bool r) ∧ Below w.heap.size w w' := by
  have HR0 := zm hr0
  have HC0 := zm hc0
  clear hr0 hc0
  have HR1 := zm hr1
  have HC1 := zm hc1
  clear hr1 hc1
  have HB := zm (Below.refl w.heap.size w)
  have H : ((apostilleref7_Is.f l0).bind fun t311 => (if t311 = true then ((apostilleref7_Is.f l1).bind fun t312 => (if t312 = true then (apostillelaw7_NatOwn.j0 k l0 l1 (decide ((wrap64 ((l0.length : Int) + (l1.length : Int))) > 200))) else (apostillelaw7_NatOwn.j0 k l0 l1 true))) else (apostillelaw7_NatOwn.j0 k l0 l1 true))) = some r := h
  clear h
  have HC3 := zm H
  clear H
  go_enter Try.func8, Try.ntmps8
  go_upto_region 1 with (fail)
  go_cut [28] (fun v28 wc => ∃ (kq : Nat) (x28_2 : Bool), v28 = .bool x28_2 ∧ Aside0 (apostillelaw7_NatOwn.j0 kq l0 l1 x28_2 = some r) ∧ Aside0 (kq ≤ k) ∧ Aside0 (Below w.heap.size w wc))
  case first =>
    have H := HC3.out
    clear HC3
    replace H := Option.bind_eq_some_iff.mp H
    obtain ⟨t311, A40, H⟩ := H
    replace H : (if t311 = true then ((apostilleref7_Is.f l1).bind fun t312 => (if t312 = true then (apostillelaw7_NatOwn.j0 k l0 l1 (decide ((wrap64 ((l0.length : Int) + (l1.length : Int))) > 200))) else (apostillelaw7_NatOwn.j0 k l0 l1 true))) else (apostillelaw7_NatOwn.j0 k l0 l1 true)) = some r := H
    have A4 := zm A40
    clear A40
    by_cases c5 : t311 = true
    · subst c5
      have H1 : ((apostilleref7_Is.f l1).bind fun t312 => (if t312 = true then (apostillelaw7_NatOwn.j0 k l0 l1 (decide ((wrap64 ((l0.length : Int) + (l1.length : Int))) > 200))) else (apostillelaw7_NatOwn.j0 k l0 l1 true))) = some r := by rw [if_pos rfl] at H; exact H
      clear H
      have H := H1
      clear H1
      replace H := Option.bind_eq_some_iff.mp H
      obtain ⟨t312, A60, H⟩ := H
      replace H : (if t312 = true then (apostillelaw7_NatOwn.j0 k l0 l1 (decide ((wrap64 ((l0.length : Int) + (l1.length : Int))) > 200))) else (apostillelaw7_NatOwn.j0 k l0 l1 true)) = some r := H
      have A6 := zm A60
      clear A60
      by_cases c7 : t312 = true
      · subst c7
        have H1 : (apostillelaw7_NatOwn.j0 k l0 l1 (decide ((wrap64 ((l0.length : Int) + (l1.length : Int))) > 200))) = some r := by rw [if_pos rfl] at H; exact H
        clear H
        have H := H1
        clear H1
        have H' := zm H
        clear H
        go_wp2_with (first | ((with_reducible refine gate_callee (f := 17) rfl ?_); refine goesL_ (some 14) rfl rfl Try.func17 (by kernel_rfl) rfl #[.slice A0 l0.length c0] rfl (by (try simp only [zl1, zl2, zl3]); first | done | rfl | (simp only [List.length_drop, List.length_take]; rfl)) ?_; (with_reducible refine (apostilleref7_Is.calls _ _ l0 true _ ?side1 ?side2 A4.out).mono ?_); (case side1 => repeat (first | exact (Kd.C_below HR0.out HB.out) | (with_reducible refine zc1 ?_ _) | (with_reducible refine zc2 ?_ _) | (with_reducible refine zc3 ?_))); (case side2 => exact HC0.out); rintro e w' ⟨rfl, ⟨nd, rfl⟩⟩; refine ⟨_, rfl, ?_⟩) | (go_at_call 17; (with_reducible refine (apostilleref7_Is.calls _ _ l1 true _ ?side1 ?side2 A6.out).mono ?_); (case side1 => repeat (first | exact (Kd.C_below HR1.out (by repeat (first | (with_reducible first | exact HB.out | apply zb1 | apply zb2 | apply zb3) | exact HB.out))) | (with_reducible refine zc1 ?_ _) | (with_reducible refine zc2 ?_ _) | (with_reducible refine zc3 ?_))); (case side2 => exact HC1.out); rintro e w' ⟨rfl, ⟨nd, rfl⟩⟩; (try clear A6)))
        go_meet
        case rel => exact ⟨_, (decide ((wrap64 ((l0.length : Int) + (l1.length : Int))) > 200)), (by first | rfl | (simp; done) | (simp [*]; done)), H', ⟨by first | omega | exact Nat.le_refl _⟩, ⟨by repeat (first | (with_reducible first | exact HB.out | apply zb1 | apply zb2 | apply zb3) | exact HB.out)⟩⟩
      · replace c7 := Bool.eq_false_iff.mpr c7
        subst c7
        have H1 : (apostillelaw7_NatOwn.j0 k l0 l1 true) = some r := by rw [if_neg (show ¬ (false = true) by decide)] at H; exact H
        clear H
        have H := H1
        clear H1
        have H' := zm H
        clear H
        go_wp2_with (first | ((with_reducible refine gate_callee (f := 17) rfl ?_); refine goesL_ (some 14) rfl rfl Try.func17 (by kernel_rfl) rfl #[.slice A0 l0.length c0] rfl (by (try simp only [zl1, zl2, zl3]); first | done | rfl | (simp only [List.length_drop, List.length_take]; rfl)) ?_; (with_reducible refine (apostilleref7_Is.calls _ _ l0 true _ ?side1 ?side2 A4.out).mono ?_); (case side1 => repeat (first | exact (Kd.C_below HR0.out HB.out) | (with_reducible refine zc1 ?_ _) | (with_reducible refine zc2 ?_ _) | (with_reducible refine zc3 ?_))); (case side2 => exact HC0.out); rintro e w' ⟨rfl, ⟨nd, rfl⟩⟩; refine ⟨_, rfl, ?_⟩) | (go_at_call 17; (with_reducible refine (apostilleref7_Is.calls _ _ l1 false _ ?side1 ?side2 A6.out).mono ?_); (case side1 => repeat (first | exact (Kd.C_below HR1.out (by repeat (first | (with_reducible first | exact HB.out | apply zb1 | apply zb2 | apply zb3) | exact HB.out))) | (with_reducible refine zc1 ?_ _) | (with_reducible refine zc2 ?_ _) | (with_reducible refine zc3 ?_))); (case side2 => exact HC1.out); rintro e w' ⟨rfl, ⟨nd, rfl⟩⟩; (try clear A6)))
        go_meet
        case rel => exact ⟨_, (true), (by first | rfl | (simp; done) | (simp [*]; done)), H', ⟨by first | omega | exact Nat.le_refl _⟩, ⟨by repeat (first | (with_reducible first | exact HB.out | apply zb1 | apply zb2 | apply zb3) | exact HB.out)⟩⟩
    · replace c5 := Bool.eq_false_iff.mpr c5
      subst c5
      have H1 : (apostillelaw7_NatOwn.j0 k l0 l1 true) = some r := by rw [if_neg (show ¬ (false = true) by decide)] at H; exact H
      clear H
      have H := H1
      clear H1
      have H' := zm H
      clear H
      go_wp2_with (first | ((with_reducible refine gate_callee (f := 17) rfl ?_); refine goesL_ (some 14) rfl rfl Try.func17 (by kernel_rfl) rfl #[.slice A0 l0.length c0] rfl (by (try simp only [zl1, zl2, zl3]); first | done | rfl | (simp only [List.length_drop, List.length_take]; rfl)) ?_; (with_reducible refine (apostilleref7_Is.calls _ _ l0 false _ ?side1 ?side2 A4.out).mono ?_); (case side1 => repeat (first | exact (Kd.C_below HR0.out HB.out) | (with_reducible refine zc1 ?_ _) | (with_reducible refine zc2 ?_ _) | (with_reducible refine zc3 ?_))); (case side2 => exact HC0.out); rintro e w' ⟨rfl, ⟨nd, rfl⟩⟩; refine ⟨_, rfl, ?_⟩))
      go_meet
      case rel => exact ⟨_, (true), (by first | rfl | (simp; done) | (simp [*]; done)), H', ⟨by first | omega | exact Nat.le_refl _⟩, ⟨by repeat (first | (with_reducible first | exact HB.out | apply zb1 | apply zb2 | apply zb3) | exact HB.out)⟩⟩
  case rest =>
    clear HC3
    try clear c1
    try clear p2
    try clear c5
    try clear p6
    try clear c7
    obtain ⟨kq, x28_2, rfl, HA, HJ2, HB⟩ := hcut
    cases kq with
    | zero => exact absurd HA.out (by simp [apostillelaw7_NatOwn.j0])
    | succ kj2 =>
      have H := HA.out
      clear HA
      simp only [apostillelaw7_NatOwn.j0] at H
      by_cases c8 : x28_2 = true
      · subst c8
        have H1 : (some true) = some r := by rw [if_pos rfl] at H; exact H
        clear H
        have H := H1
        clear H1
        obtain rfl := Option.some.inj H
        go_wp2
        go_ret
        exact ⟨by first | rfl | (simp [errW_none, errW_some] <;> rfl) | (simp [*, errW_none, errW_some] <;> rfl), by repeat (first | (with_reducible first | exact HB.out | apply zb1 | apply zb2 | apply zb3) | exact HB.out)⟩
      · replace c8 := Bool.eq_false_iff.mpr c8
        subst c8
        have H1 : ((some (([] : List Int) : List Int)).bind fun y313 => (if y313.length + l0.length < 35184372088832 then ((some (y313 ++ l0 : List Int)).bind fun y316 => ((some (([] : List Int) : List Int)).bind fun y319 => (if y319.length + l1.length < 35184372088832 then ((some (y319 ++ l1 : List Int)).bind fun y322 => ((nat_Add.f kj2 y316 y322).bind fun t325 => ((nat_Mul.f kj2 y316 y322).bind fun t328 => ((nat_Sub.f kj2 y316 y322).bind fun bt331 => ((nat_Div.f kj2 y316 y322).bind fun bt335 => (apostillelaw7_NatOwn.l0 kj2 l0 l1 y316 y322 t325 bt335.2.1 0)))))) else (none)))) else (none))) = some r := by rw [if_neg (show ¬ (false = true) by decide)] at H; exact H
        clear H
        have H := H1
        clear H1
        obtain ⟨y313, hy313⟩ : ∃ y_ : List Int, y_ = (([] : List Int)) := ⟨_, rfl⟩
        replace H : (if y313.length + l0.length < 35184372088832 then ((some (y313 ++ l0 : List Int)).bind fun y316 => ((some (([] : List Int) : List Int)).bind fun y319 => (if y319.length + l1.length < 35184372088832 then ((some (y319 ++ l1 : List Int)).bind fun y322 => ((nat_Add.f kj2 y316 y322).bind fun t325 => ((nat_Mul.f kj2 y316 y322).bind fun t328 => ((nat_Sub.f kj2 y316 y322).bind fun bt331 => ((nat_Div.f kj2 y316 y322).bind fun bt335 => (apostillelaw7_NatOwn.l0 kj2 l0 l1 y316 y322 t325 bt335.2.1 0)))))) else (none)))) else (none)) = some r := by first | (rw [hy313]; with_reducible exact H) | (have H2_ := (Option.bind_some _ _).symm.trans H; rw [hy313]; with_reducible exact H2_) | (have H2_ := (Option.bind_some _ _).symm.trans H; with_reducible exact H2_) | with_reducible exact H | (rw [hy313]; exact H) | exact H
        have Ny313 := zm hy313
        clear hy313
        by_cases c9 : y313.length + l0.length < 35184372088832
        · rw [if_pos c9] at H
          have LMc9 := zm c9
          clear c9
          obtain ⟨y316, hy316⟩ : ∃ y_ : List Int, y_ = (y313 ++ l0) := ⟨_, rfl⟩
          replace H : ((some (([] : List Int) : List Int)).bind fun y319 => (if y319.length + l1.length < 35184372088832 then ((some (y319 ++ l1 : List Int)).bind fun y322 => ((nat_Add.f kj2 y316 y322).bind fun t325 => ((nat_Mul.f kj2 y316 y322).bind fun t328 => ((nat_Sub.f kj2 y316 y322).bind fun bt331 => ((nat_Div.f kj2 y316 y322).bind fun bt335 => (apostillelaw7_NatOwn.l0 kj2 l0 l1 y316 y322 t325 bt335.2.1 0)))))) else (none))) = some r := by first | (rw [hy316]; with_reducible exact H) | (have H2_ := (Option.bind_some _ _).symm.trans H; rw [hy316]; with_reducible exact H2_) | (have H2_ := (Option.bind_some _ _).symm.trans H; with_reducible exact H2_) | with_reducible exact H | (rw [hy316]; exact H) | exact H
          have Ny316 := zm hy316
          clear hy316
          obtain ⟨y319, hy319⟩ : ∃ y_ : List Int, y_ = (([] : List Int)) := ⟨_, rfl⟩
          replace H : (if y319.length + l1.length < 35184372088832 then ((some (y319 ++ l1 : List Int)).bind fun y322 => ((nat_Add.f kj2 y316 y322).bind fun t325 => ((nat_Mul.f kj2 y316 y322).bind fun t328 => ((nat_Sub.f kj2 y316 y322).bind fun bt331 => ((nat_Div.f kj2 y316 y322).bind fun bt335 => (apostillelaw7_NatOwn.l0 kj2 l0 l1 y316 y322 t325 bt335.2.1 0)))))) else (none)) = some r := by first | (rw [hy319]; with_reducible exact H) | (have H2_ := (Option.bind_some _ _).symm.trans H; rw [hy319]; with_reducible exact H2_) | (have H2_ := (Option.bind_some _ _).symm.trans H; with_reducible exact H2_) | with_reducible exact H | (rw [hy319]; exact H) | exact H
          have Ny319 := zm hy319
          clear hy319
          by_cases c10 : y319.length + l1.length < 35184372088832
          · rw [if_pos c10] at H
            have LMc10 := zm c10
            clear c10
            obtain ⟨y322, hy322⟩ : ∃ y_ : List Int, y_ = (y319 ++ l1) := ⟨_, rfl⟩
            replace H : ((nat_Add.f kj2 y316 y322).bind fun t325 => ((nat_Mul.f kj2 y316 y322).bind fun t328 => ((nat_Sub.f kj2 y316 y322).bind fun bt331 => ((nat_Div.f kj2 y316 y322).bind fun bt335 => (apostillelaw7_NatOwn.l0 kj2 l0 l1 y316 y322 t325 bt335.2.1 0))))) = some r := by first | (rw [hy322]; with_reducible exact H) | (have H2_ := (Option.bind_some _ _).symm.trans H; rw [hy322]; with_reducible exact H2_) | (have H2_ := (Option.bind_some _ _).symm.trans H; with_reducible exact H2_) | with_reducible exact H | (rw [hy322]; exact H) | exact H
            have Ny322 := zm hy322
            clear hy322
            replace H := Option.bind_eq_some_iff.mp H
            obtain ⟨t325, A110, H⟩ := H
            replace H : ((nat_Mul.f kj2 y316 y322).bind fun t328 => ((nat_Sub.f kj2 y316 y322).bind fun bt331 => ((nat_Div.f kj2 y316 y322).bind fun bt335 => (apostillelaw7_NatOwn.l0 kj2 l0 l1 y316 y322 t325 bt335.2.1 0)))) = some r := H
            have A11 := zm A110
            clear A110
            replace H := Option.bind_eq_some_iff.mp H
            obtain ⟨t328, A120, H⟩ := H
            replace H : ((nat_Sub.f kj2 y316 y322).bind fun bt331 => ((nat_Div.f kj2 y316 y322).bind fun bt335 => (apostillelaw7_NatOwn.l0 kj2 l0 l1 y316 y322 t325 bt335.2.1 0))) = some r := H
            have A12 := zm A120
            clear A120
            replace H := Option.bind_eq_some_iff.mp H
            obtain ⟨⟨t331, t332⟩, A130, H⟩ := H
            replace H : ((nat_Div.f kj2 y316 y322).bind fun bt335 => (apostillelaw7_NatOwn.l0 kj2 l0 l1 y316 y322 t325 bt335.2.1 0)) = some r := H
            have A13 := zm A130
            clear A130
            replace H := Option.bind_eq_some_iff.mp H
            obtain ⟨⟨t335, t338, t341⟩, A140, H⟩ := H
            replace H : (apostillelaw7_NatOwn.l0 kj2 l0 l1 y316 y322 t325 t338 0) = some r := H
            have A14 := zm A140
            clear A140
            have H' := zm H
            clear H
            go_wp2_with (first | ((with_reducible refine gate_dst (N := 29) rfl ?_); (try (refine gate_guard (by rfl) ?_; dsimp only)); refine Kd.R_lit (Kd.int .u32) _ 40 ?hg (N := 29) ?hd (xs := ([] : List Int)) (inner := []) (ok := fun _ => True) (okp := fun _ => True) ?hr ?hp (fun _ hk => hk) trivial (Below.refl _ _) (Nat.le_refl _) (by simp) ?_; (case hd => rfl); (case hg => rfl); (case hr => first | (go_simp; done) | (go_simp; rfl)); (case hp => exact (Reps.none _ _)); intro v314 w15 ho16 hb hg_ hnew_; clear hg_ hnew_; (first | rw [← Ny313.out] at ho16 | (simp only [Int.reduceToNat] at ho16; rw [← Ny313.out] at ho16)); have n0_ := zm (Kd.R_lower ho16 (below_size (by repeat (first | (with_reducible first | exact HB.out | apply zb1 | apply zb2 | apply zb3) | exact HB.out)))); have n1_ := zm (below_step (by repeat (first | (with_reducible first | exact HB.out | apply zb1 | apply zb2 | apply zb3) | exact HB.out)) hb); clear HB; have HO315 := n0_; have HB := n1_; clear n0_ n1_; clear hb ho16) | ((with_reducible refine gate_builtin (b := .append) (xs := #[.tmp 29, .tmp 30]) rfl ?_); (try (refine gate_guard (by rfl) ?_; dsimp only)); at_builtin; refine Kd.R_append_rows (Kd.int .u32) (w0 := w) w.heap.size rfl (.tmp 29) (.tmp 30) 24 40 (.int .u32 0) 4 rfl Try.underlying24 info40 rfl (by decide) (by omega) v314 y313 l0 _ _ _ (fun _ => True) (fun _ => False) rfl rfl ?aO ?aR (fun _ _ h => h) (fun _ h => h.elim) ?aF ?aB ?aS ?aL ?_; (case aR => repeat (first | exact (Kd.C_below HR0.out HB.out) | (with_reducible refine zc1 ?_ _) | (with_reducible refine zc2 ?_ _) | (with_reducible refine zc3 ?_))); (case aB => exact (by repeat (first | (with_reducible first | exact HB.out | apply zb1 | apply zb2 | apply zb3) | exact HB.out))); (case aF => exact (fun _ _ => trivial)); (case aO => exact (by (with_reducible repeat (first | apply zr1 | apply zr2 | apply zr3)); exact HO315.out)); (case aS => exact (below_size (by repeat (first | (with_reducible first | exact HB.out | apply zb1 | apply zb2 | apply zb3) | exact HB.out)))); (case aL => have := LMc9.out; omega); intro v317 w17 ho hb hg hat; rw [← Ny316.out] at ho; have n0_ := zm (hb); have n1_ := zm (ho); clear HB; clear HO315; have HB := n0_; have HO318 := n1_; clear n0_ n1_; clear ho hb hg hat) | ((with_reducible refine gate_dst (N := 32) rfl ?_); (try (refine gate_guard (by rfl) ?_; dsimp only)); refine Kd.R_lit (Kd.int .u32) _ 40 ?hg (N := 32) ?hd (xs := ([] : List Int)) (inner := []) (ok := fun _ => True) (okp := fun _ => True) ?hr ?hp (fun _ hk => hk) trivial (Below.refl _ _) (Nat.le_refl _) (by simp) ?_; (case hd => rfl); (case hg => rfl); (case hr => first | (go_simp; done) | (go_simp; rfl)); (case hp => exact (Reps.none _ _)); intro v320 w18 ho19 hb hg_ hnew_; clear hg_ hnew_; (first | rw [← Ny319.out] at ho19 | (simp only [Int.reduceToNat] at ho19; rw [← Ny319.out] at ho19)); have n0_ := zm (Kd.R_elder' (by (with_reducible repeat (first | apply zr1 | apply zr2 | apply zr3)); exact HO318.out) (Kd.R_base ho19) hb); have n1_ := zm (Kd.R_lower (Kd.R_new' ho19 (Kd.R_lt (by (with_reducible repeat (first | apply zr1 | apply zr2 | apply zr3)); exact HO318.out))) (below_size (by repeat (first | (with_reducible first | exact HB.out | apply zb1 | apply zb2 | apply zb3) | exact HB.out)))); have n2_ := zm (below_step (by repeat (first | (with_reducible first | exact HB.out | apply zb1 | apply zb2 | apply zb3) | exact HB.out)) hb); clear HO318; clear HB; have HO318 := n0_; have HO321 := n1_; have HB := n2_; clear n0_ n1_ n2_; clear hb ho19) | ((with_reducible refine gate_builtin (b := .append) (xs := #[.tmp 32, .tmp 33]) rfl ?_); (try (refine gate_guard (by rfl) ?_; dsimp only)); at_builtin; refine Kd.R_append_rows (Kd.int .u32) (w0 := w) w.heap.size rfl (.tmp 32) (.tmp 33) 24 40 (.int .u32 0) 4 rfl Try.underlying24 info40 rfl (by decide) (by omega) v320 y319 l1 _ _ _ (fun k_ => some k_ ≠ (v317 : Value).ownBlock) (fun _ => False) rfl rfl ?aO ?aR (fun _ _ h => h) (fun _ h => h.elim) ?aF ?aB ?aS ?aL ?_; (case aR => repeat (first | exact (Kd.C_below HR1.out HB.out) | (with_reducible refine zc1 ?_ _) | (with_reducible refine zc2 ?_ _) | (with_reducible refine zc3 ?_))); (case aB => exact (by repeat (first | (with_reducible first | exact HB.out | apply zb1 | apply zb2 | apply zb3) | exact HB.out))); (case aF => exact (fun k_ hk => Kd.fresh' (Kd.R_lt (by (with_reducible repeat (first | apply zr1 | apply zr2 | apply zr3)); exact HO318.out)) k_ hk)); (case aO => exact (by (with_reducible repeat (first | apply zr1 | apply zr2 | apply zr3)); exact Kd.R_mono HO321.out (fun _ hk => hk.2))); (case aS => exact (below_size (by repeat (first | (with_reducible first | exact HB.out | apply zb1 | apply zb2 | apply zb3) | exact HB.out)))); (case aL => have := LMc10.out; omega); intro v323 w20 ho hb hg hat; rw [← Ny322.out] at ho; have n0_ := zm (Kd.R_after (ok := (fun _ => True)) (by (with_reducible repeat (first | apply zr1 | apply zr2 | apply zr3)); exact HO318.out) hg hat); have n1_ := zm (hb); have n2_ := zm (ho); clear HO318; clear HB; clear HO321; have HO318 := n0_; have HB := n1_; have HO324 := n2_; clear n0_ n1_ n2_; clear ho hb hg hat; obtain ⟨Ao21, co21, eo21⟩ := Kd.R_slice HO318.out; subst eo21; obtain ⟨Ao22, co22, eo22⟩ := Kd.R_slice HO324.out; subst eo22) | ((with_reducible refine gate_callee (f := 21) rfl ?_); refine goesL_ (some 37) rfl rfl Try.func21 (by kernel_rfl) rfl #[.slice Ao21 y316.length co21, .slice Ao22 y322.length co22] rfl (by (try simp only [zl1, zl2, zl3]); first | done | rfl | (simp only [List.length_drop, List.length_take]; rfl)) ?_; (with_reducible refine (nat_Add.calls kj2 _ _ y316 _ _ y322 t325 _ ?side1 ?side2 ?side3 ?side4 A11.out).mono ?_); (case side1 => repeat (first | exact (Kd.R_reads' HO318.out).2.2 | (with_reducible refine zc1 ?_ _) | (with_reducible refine zc2 ?_ _) | (with_reducible refine zc3 ?_))); (case side2 => exact (Kd.R_reads' HO318.out).2.1); (case side3 => repeat (first | exact (Kd.R_reads' HO324.out).2.2 | (with_reducible refine zc1 ?_ _) | (with_reducible refine zc2 ?_ _) | (with_reducible refine zc3 ?_))); (case side4 => exact (Kd.R_reads' HO324.out).2.1); rintro e w23 ⟨v326, rfl, ho0, hb⟩; refine ⟨_, rfl, ?_⟩; have n0_ := zm (Kd.R_elder' (by (with_reducible repeat (first | apply zr1 | apply zr2 | apply zr3)); exact HO318.out) (Kd.R_base ho0) hb); have n1_ := zm (Kd.R_elder' (by (with_reducible repeat (first | apply zr1 | apply zr2 | apply zr3)); exact HO324.out) (Kd.R_base ho0) hb); have n2_ := zm (Kd.R_lower (Kd.R_new' (Kd.R_new' ho0 (Kd.R_lt (by (with_reducible repeat (first | apply zr1 | apply zr2 | apply zr3)); exact HO318.out))) (Kd.R_lt (by (with_reducible repeat (first | apply zr1 | apply zr2 | apply zr3)); exact HO324.out))) (below_size (by repeat (first | (with_reducible first | exact HB.out | apply zb1 | apply zb2 | apply zb3) | exact HB.out)))); have n3_ := zm (below_step (by repeat (first | (with_reducible first | exact HB.out | apply zb1 | apply zb2 | apply zb3) | exact HB.out)) hb); clear HO318; clear HO324; clear HB; have HO318 := n0_; have HO324 := n1_; have HO327 := n2_; have HB := n3_; clear n0_ n1_ n2_ n3_; (try clear hb); (try clear hb2); (try clear hk); (try clear hi); (try clear ho0)) | ((with_reducible refine gate_callee (f := 23) rfl ?_); refine goesL_ (some 40) rfl rfl Try.func23 (by kernel_rfl) rfl #[.slice Ao21 y316.length co21, .slice Ao22 y322.length co22] rfl (by (try simp only [zl1, zl2, zl3]); first | done | rfl | (simp only [List.length_drop, List.length_take]; rfl)) ?_; (with_reducible refine (nat_Mul.calls kj2 _ _ y316 _ _ y322 t328 _ ?side1 ?side2 ?side3 ?side4 A12.out).mono ?_); (case side1 => repeat (first | exact (Kd.R_reads' HO318.out).2.2 | (with_reducible refine zc1 ?_ _) | (with_reducible refine zc2 ?_ _) | (with_reducible refine zc3 ?_))); (case side2 => exact (Kd.R_reads' HO318.out).2.1); (case side3 => repeat (first | exact (Kd.R_reads' HO324.out).2.2 | (with_reducible refine zc1 ?_ _) | (with_reducible refine zc2 ?_ _) | (with_reducible refine zc3 ?_))); (case side4 => exact (Kd.R_reads' HO324.out).2.1); rintro e w24 ⟨v329, rfl, ho0, hb⟩; refine ⟨_, rfl, ?_⟩; have n0_ := zm (Kd.R_elder' (by (with_reducible repeat (first | apply zr1 | apply zr2 | apply zr3)); exact HO318.out) (Kd.R_base ho0) hb); have n1_ := zm (Kd.R_elder' (by (with_reducible repeat (first | apply zr1 | apply zr2 | apply zr3)); exact HO324.out) (Kd.R_base ho0) hb); have n2_ := zm (Kd.R_elder' (by (with_reducible repeat (first | apply zr1 | apply zr2 | apply zr3)); exact HO327.out) (Kd.R_base ho0) hb); have n3_ := zm (Kd.R_lower (Kd.R_new' (Kd.R_new' (Kd.R_new' ho0 (Kd.R_lt (by (with_reducible repeat (first | apply zr1 | apply zr2 | apply zr3)); exact HO318.out))) (Kd.R_lt (by (with_reducible repeat (first | apply zr1 | apply zr2 | apply zr3)); exact HO324.out))) (Kd.R_lt (by (with_reducible repeat (first | apply zr1 | apply zr2 | apply zr3)); exact HO327.out))) (below_size (by repeat (first | (with_reducible first | exact HB.out | apply zb1 | apply zb2 | apply zb3) | exact HB.out)))); have n4_ := zm (below_step (by repeat (first | (with_reducible first | exact HB.out | apply zb1 | apply zb2 | apply zb3) | exact HB.out)) hb); clear HO318; clear HO324; clear HO327; clear HB; have HO318 := n0_; have HO324 := n1_; have HO327 := n2_; have HO330 := n3_; have HB := n4_; clear n0_ n1_ n2_ n3_ n4_; (try clear hb); (try clear hb2); (try clear hk); (try clear hi); (try clear ho0)) | ((with_reducible refine gate_callee (f := 19) rfl ?_); refine goesL_ (some 43) rfl rfl Try.func19 (by kernel_rfl) rfl #[.slice Ao21 y316.length co21, .slice Ao22 y322.length co22] rfl (by (try simp only [zl1, zl2, zl3]); first | done | rfl | (simp only [List.length_drop, List.length_take]; rfl)) ?_; (with_reducible refine (nat_Sub.calls kj2 _ _ y316 _ _ y322 t331 t332 _ ?side1 ?side2 ?side3 ?side4 A13.out).mono ?_); (case side1 => repeat (first | exact (Kd.R_reads' HO318.out).2.2 | (with_reducible refine zc1 ?_ _) | (with_reducible refine zc2 ?_ _) | (with_reducible refine zc3 ?_))); (case side2 => exact (Kd.R_reads' HO318.out).2.1); (case side3 => repeat (first | exact (Kd.R_reads' HO324.out).2.2 | (with_reducible refine zc1 ?_ _) | (with_reducible refine zc2 ?_ _) | (with_reducible refine zc3 ?_))); (case side4 => exact (Kd.R_reads' HO324.out).2.1); rintro e w25 ⟨v333, rfl, ho0, hb⟩; refine ⟨_, rfl, ?_⟩; have n0_ := zm (Kd.R_elder' (by (with_reducible repeat (first | apply zr1 | apply zr2 | apply zr3)); exact HO318.out) (Kd.R_base ho0) hb); have n1_ := zm (Kd.R_elder' (by (with_reducible repeat (first | apply zr1 | apply zr2 | apply zr3)); exact HO324.out) (Kd.R_base ho0) hb); have n2_ := zm (Kd.R_elder' (by (with_reducible repeat (first | apply zr1 | apply zr2 | apply zr3)); exact HO327.out) (Kd.R_base ho0) hb); have n3_ := zm (Kd.R_elder' (by (with_reducible repeat (first | apply zr1 | apply zr2 | apply zr3)); exact HO330.out) (Kd.R_base ho0) hb); have n4_ := zm (Kd.R_lower (Kd.R_new' (Kd.R_new' (Kd.R_new' (Kd.R_new' ho0 (Kd.R_lt (by (with_reducible repeat (first | apply zr1 | apply zr2 | apply zr3)); exact HO318.out))) (Kd.R_lt (by (with_reducible repeat (first | apply zr1 | apply zr2 | apply zr3)); exact HO324.out))) (Kd.R_lt (by (with_reducible repeat (first | apply zr1 | apply zr2 | apply zr3)); exact HO327.out))) (Kd.R_lt (by (with_reducible repeat (first | apply zr1 | apply zr2 | apply zr3)); exact HO330.out))) (below_size (by repeat (first | (with_reducible first | exact HB.out | apply zb1 | apply zb2 | apply zb3) | exact HB.out)))); have n5_ := zm (below_step (by repeat (first | (with_reducible first | exact HB.out | apply zb1 | apply zb2 | apply zb3) | exact HB.out)) hb); clear HO318; clear HO324; clear HO327; clear HO330; clear HB; have HO318 := n0_; have HO324 := n1_; have HO327 := n2_; have HO330 := n3_; have HO334 := n4_; have HB := n5_; clear n0_ n1_ n2_ n3_ n4_ n5_; (try clear hb); (try clear hb2); (try clear hk); (try clear hi); (try clear ho0)) | ((with_reducible refine gate_callee (f := 27) rfl ?_); refine goesL_ (some 47) rfl rfl Try.func27 (by kernel_rfl) rfl #[.slice Ao21 y316.length co21, .slice Ao22 y322.length co22] rfl (by (try simp only [zl1, zl2, zl3]); first | done | rfl | (simp only [List.length_drop, List.length_take]; rfl)) ?_; (with_reducible refine (nat_Div.calls kj2 _ _ y316 _ _ y322 t335 t338 t341 _ ?side1 ?side2 ?side3 ?side4 A14.out).mono ?_); (case side1 => repeat (first | exact (Kd.R_reads' HO318.out).2.2 | (with_reducible refine zc1 ?_ _) | (with_reducible refine zc2 ?_ _) | (with_reducible refine zc3 ?_))); (case side2 => exact (Kd.R_reads' HO318.out).2.1); (case side3 => repeat (first | exact (Kd.R_reads' HO324.out).2.2 | (with_reducible refine zc1 ?_ _) | (with_reducible refine zc2 ?_ _) | (with_reducible refine zc3 ?_))); (case side4 => exact (Kd.R_reads' HO324.out).2.1); rintro e w26 ⟨v336, v339, rfl, ho0, ho1, hb⟩; refine ⟨_, rfl, ?_⟩; have n0_ := zm (Kd.R_elder' (by (with_reducible repeat (first | apply zr1 | apply zr2 | apply zr3)); exact HO318.out) (Kd.R_base ho1) hb); have n1_ := zm (Kd.R_elder' (by (with_reducible repeat (first | apply zr1 | apply zr2 | apply zr3)); exact HO324.out) (Kd.R_base ho1) hb); have n2_ := zm (Kd.R_elder' (by (with_reducible repeat (first | apply zr1 | apply zr2 | apply zr3)); exact HO327.out) (Kd.R_base ho1) hb); have n3_ := zm (Kd.R_elder' (by (with_reducible repeat (first | apply zr1 | apply zr2 | apply zr3)); exact HO330.out) (Kd.R_base ho1) hb); have n4_ := zm (Kd.R_elder' (by (with_reducible repeat (first | apply zr1 | apply zr2 | apply zr3)); exact HO334.out) (Kd.R_base ho1) hb); have n5_ := zm (Kd.V_lower (Kd.V_mono (ok' := fun k_ => some k_ ≠ (v339 : Value).ownBlock ∧ some k_ ≠ (.slice Ao21 y316.length co21 : Value).ownBlock ∧ some k_ ≠ (.slice Ao22 y322.length co22 : Value).ownBlock ∧ some k_ ≠ (v326 : Value).ownBlock ∧ some k_ ≠ (v329 : Value).ownBlock ∧ some k_ ≠ (v333 : Value).ownBlock) ho0 (fun k_ hk_ => by first | exact ⟨hk_.2, (Kd.fresh' (Kd.R_lt (by (with_reducible repeat (first | apply zr1 | apply zr2 | apply zr3)); exact HO318.out)) k_ hk_.1), (Kd.fresh' (Kd.R_lt (by (with_reducible repeat (first | apply zr1 | apply zr2 | apply zr3)); exact HO324.out)) k_ hk_.1), (Kd.fresh' (Kd.R_lt (by (with_reducible repeat (first | apply zr1 | apply zr2 | apply zr3)); exact HO327.out)) k_ hk_.1), (Kd.fresh' (Kd.R_lt (by (with_reducible repeat (first | apply zr1 | apply zr2 | apply zr3)); exact HO330.out)) k_ hk_.1), (Kd.fresh' (Kd.R_lt (by (with_reducible repeat (first | apply zr1 | apply zr2 | apply zr3)); exact HO334.out)) k_ hk_.1)⟩ | simp_all)) (below_size (by repeat (first | (with_reducible first | exact HB.out | apply zb1 | apply zb2 | apply zb3) | exact HB.out)))); have n6_ := zm (Kd.R_lower (Kd.R_new' (Kd.R_new' (Kd.R_new' (Kd.R_new' (Kd.R_new' (Kd.R_mono (ok' := fun k_ => True) ho1 (fun _ hk_ => trivial)) (Kd.R_lt (by (with_reducible repeat (first | apply zr1 | apply zr2 | apply zr3)); exact HO318.out))) (Kd.R_lt (by (with_reducible repeat (first | apply zr1 | apply zr2 | apply zr3)); exact HO324.out))) (Kd.R_lt (by (with_reducible repeat (first | apply zr1 | apply zr2 | apply zr3)); exact HO327.out))) (Kd.R_lt (by (with_reducible repeat (first | apply zr1 | apply zr2 | apply zr3)); exact HO330.out))) (Kd.R_lt (by (with_reducible repeat (first | apply zr1 | apply zr2 | apply zr3)); exact HO334.out))) (below_size (by repeat (first | (with_reducible first | exact HB.out | apply zb1 | apply zb2 | apply zb3) | exact HB.out)))); have n7_ := zm (below_step (by repeat (first | (with_reducible first | exact HB.out | apply zb1 | apply zb2 | apply zb3) | exact HB.out)) hb); clear HO318; clear HO324; clear HO327; clear HO330; clear HO334; clear HB; have HO318 := n0_; have HO324 := n1_; have HO327 := n2_; have HO330 := n3_; have HO334 := n4_; have HO337 := n5_; have HO340 := n6_; have HB := n7_; clear n0_ n1_ n2_ n3_ n4_ n5_ n6_ n7_; (try clear hb); (try clear hb2); (try clear hk); (try clear hi); (try clear ho0); (try clear ho1)))
            go_loopg [11] kj2 (fun kq v11 w' => ∃ (x7_2 : List Int) (x11_2 : Int), v11 = .int .i64 x11_2 ∧ Aside0 (apostillelaw7_NatOwn.l0 kq l0 l1 y316 y322 x7_2 t338 x11_2 = some r) ∧ Aside0 (kq ≤ kj2) ∧ Aside0 (Kd.R (Kd.int .u32) 40 w' w.heap.size (fun k_ => some k_ ≠ ((.slice Ao22 y322.length co22) : Value).ownBlock ∧ some k_ ≠ (v326 : Value).ownBlock ∧ some k_ ≠ (v339 : Value).ownBlock) (.slice Ao21 y316.length co21) y316) ∧ Aside0 (Kd.R (Kd.int .u32) 40 w' w.heap.size (fun k_ => some k_ ≠ ((.slice Ao21 y316.length co21) : Value).ownBlock ∧ some k_ ≠ (v326 : Value).ownBlock ∧ some k_ ≠ (v339 : Value).ownBlock) (.slice Ao22 y322.length co22) y322) ∧ Aside0 (Kd.R (Kd.int .u32) 40 w' w.heap.size (fun k_ => some k_ ≠ ((.slice Ao21 y316.length co21) : Value).ownBlock ∧ some k_ ≠ ((.slice Ao22 y322.length co22) : Value).ownBlock ∧ some k_ ≠ (v339 : Value).ownBlock) v326 x7_2) ∧ Aside0 (Kd.R (Kd.int .u32) 40 w' w.heap.size (fun k_ => some k_ ≠ ((.slice Ao21 y316.length co21) : Value).ownBlock ∧ some k_ ≠ ((.slice Ao22 y322.length co22) : Value).ownBlock ∧ some k_ ≠ (v326 : Value).ownBlock) v339 t338) ∧ Aside0 (Below w.heap.size w w'))
            case atStart => exact ⟨(t325), (0), (by first | rfl | (simp; done) | (simp [*]; done)), H', ⟨Nat.le_refl _⟩, ⟨by (with_reducible repeat (first | apply zr1 | apply zr2 | apply zr3)); exact Kd.R_mono HO318.out (fun _ hk => ⟨hk.1.1.1.1.2, ⟨hk.1.1.1.2, hk.2⟩⟩)⟩, ⟨by (with_reducible repeat (first | apply zr1 | apply zr2 | apply zr3)); exact Kd.R_mono HO324.out (fun _ hk => ⟨hk.1.1.1.1, ⟨hk.1.1.1.2, hk.2⟩⟩)⟩, ⟨by (with_reducible repeat (first | apply zr1 | apply zr2 | apply zr3)); exact Kd.R_mono HO327.out (fun _ hk => ⟨hk.1.1.1.1.2, ⟨hk.1.1.1.2, hk.2⟩⟩)⟩, ⟨by (with_reducible repeat (first | apply zr1 | apply zr2 | apply zr3)); exact Kd.R_mono HO340.out (fun _ hk => ⟨hk.1.1.1.1.2, ⟨hk.1.1.1.2, hk.1.1.2⟩⟩)⟩, ⟨by repeat (first | (with_reducible first | exact HB.out | apply zb1 | apply zb2 | apply zb3) | exact HB.out)⟩⟩
            case round =>
              clear H'
              try clear c1
              try clear c2
              try clear p2
              try clear c5
              try clear p6
              try clear c7
              try clear c8
              try clear c9
              try clear c10
              try clear c17
              try clear c19
              try clear c21
              try clear c23
              try clear p2
              try clear p6
              obtain ⟨x7_2, x11_2, rfl, HA, HK2, HO_5, HO_6, HO_7, HO_9, HB⟩ := hrel
              cases gk with
              | zero => exact absurd HA.out (by simp [apostillelaw7_NatOwn.l0])
              | succ k2 =>
                have H := HA.out
                clear HA
                simp only [apostillelaw7_NatOwn.l0] at H
                by_cases c27 : x11_2 < (x7_2.length : Int)
                · rw [if_pos c27] at H
                  have c27b0 : decide (x11_2 < (x7_2.length : Int)) = true := decide_eq_true c27
                  clear c27
                  by_cases c28 : 0 ≤ x11_2
                  · rw [if_pos c28] at H
                    have c28b0 : decide (0 ≤ x11_2) = true := decide_eq_true c28
                    clear c28
                    obtain ⟨y343, hy343⟩ : ∃ y_ : List Int, y_ = (x7_2.set (x11_2 : Int).toNat (((rd x7_2 x11_2) + 1) % 4294967296)) := ⟨_, rfl⟩
                    replace H : (apostillelaw7_NatOwn.l0 k2 l0 l1 y316 y322 y343 t338 (wrap64 (x11_2 + 1))) = some r := by first | (rw [hy343]; with_reducible exact H) | (have H2_ := (Option.bind_some _ _).symm.trans H; rw [hy343]; with_reducible exact H2_) | (have H2_ := (Option.bind_some _ _).symm.trans H; with_reducible exact H2_) | with_reducible exact H | (rw [hy343]; exact H) | exact H
                    have Ny343 := zm hy343
                    clear hy343
                    have H' := zm H
                    clear H
                    obtain ⟨Ao30, co30, eo30⟩ := Kd.R_slice HO_7.out
                    subst eo30
                    have p342 : 0 ≤ (x11_2 : Int) := of_decide_eq_true (by first | (with_reducible assumption) | assumption)
                    have q342 : x11_2 < (x7_2.length : Int) := of_decide_eq_true (by first | (with_reducible assumption) | assumption)
                    obtain ⟨ad342, e342, hx342_0⟩ := Kd.at_int (Kd.R_reads' HO_7.out).2.2 x11_2 p342 q342
                    cases e342
                    replace p342 := eq_true p342
                    replace q342 := eq_true q342
                    have p29 : 0 ≤ (x11_2 : Int) := of_decide_eq_true (by first | (with_reducible assumption) | assumption)
                    have q29 : (x11_2 : Int) < ((x7_2.length : Int) : Int) := of_decide_eq_true (by first | (with_reducible assumption) | assumption)
                    obtain ⟨go29, co29, eo29, gb29, gl29, cl29, HG29⟩ := Kd.R_form HO_7.out (by omega)
                    (first | cases eo29 | (injection eo29 with ea_ en_ ec_; (first | subst ea_ | (injection ea_ with ea_; subst ea_)); subst ec_; clear en_))
                    have GB29 := zm gb29
                    have GG29 := zm HG29
                    clear gb29 gl29 HG29
                    (first | simp only [add_plain] at hx342_0 | skip)
                    obtain ⟨hx29_0, hf29_0⟩ := Kd.R_celln 0 HO_7.out (x11_2 : Int) p29 q29
                    replace p29 := eq_true p29
                    replace q29 := eq_true q29
                    have HP31 := Kd.R_putg HO_7.out (x11_2 : Int) (((rd x7_2 x11_2) + 1) % 4294967296)
                    go_wp2_with (first | ((with_reducible refine gate_store (t := 40) (p := 62) rfl ?_); refine store_event (t := 40) (p := 62) (v := ?vo_w32) (w1 := (wr.setCell ⟨go29, (x11_2 : Int).toNat, none⟩ (.int .u32 (((rd x7_2 x11_2) + 1) % 4294967296)))) ?hg ?ho ?hn ?hr ?_; (case ho => rfl); (case hg => rfl); (case hn => rfl); (case hr => first | (go_simp; done) | (go_simp; rfl)); intro w32 hw; have hg : wr.grownBy w32 (some go29) := (by rw [hw]; exact HP31.2); have hp_ : Kd.R (Kd.int .u32) 40 w32 w.heap.size (fun k_ => some k_ ≠ (.slice Ao21 y316.length co21 : Value).ownBlock ∧ some k_ ≠ (.slice Ao22 y322.length co22 : Value).ownBlock ∧ some k_ ≠ (v339 : Value).ownBlock) (.slice (some ⟨go29, 0, none⟩) x7_2.length co30) y343 := (by rw [hw, Ny343.out]; exact HP31.1); clear HP31; have n0_ := zm (Kd.R_after (v := (.slice (some ⟨go29, 0, none⟩) x7_2.length co30)) (v1 := (.slice (some ⟨go29, 0, none⟩) x7_2.length co30)) (ok := (fun k_ => some k_ ≠ (.slice Ao22 y322.length co22 : Value).ownBlock ∧ some k_ ≠ (v339 : Value).ownBlock)) (by (with_reducible repeat (first | apply zr1 | apply zr2 | apply zr3)); exact Kd.R_mono HO_5.out (fun _ hk => ⟨⟨hk.1, hk.2.2⟩, hk.2.1⟩)) hg (.inl rfl)); have n1_ := zm (Kd.R_after (v := (.slice (some ⟨go29, 0, none⟩) x7_2.length co30)) (v1 := (.slice (some ⟨go29, 0, none⟩) x7_2.length co30)) (ok := (fun k_ => some k_ ≠ (.slice Ao21 y316.length co21 : Value).ownBlock ∧ some k_ ≠ (v339 : Value).ownBlock)) (by (with_reducible repeat (first | apply zr1 | apply zr2 | apply zr3)); exact Kd.R_mono HO_6.out (fun _ hk => ⟨⟨hk.1, hk.2.2⟩, hk.2.1⟩)) hg (.inl rfl)); have n2_ := zm (hp_); have n3_ := zm (Kd.R_after (v := (.slice (some ⟨go29, 0, none⟩) x7_2.length co30)) (v1 := (.slice (some ⟨go29, 0, none⟩) x7_2.length co30)) (ok := (fun k_ => some k_ ≠ (.slice Ao21 y316.length co21 : Value).ownBlock ∧ some k_ ≠ (.slice Ao22 y322.length co22 : Value).ownBlock)) (by (with_reducible repeat (first | apply zr1 | apply zr2 | apply zr3)); exact Kd.R_mono HO_9.out (fun _ hk => ⟨⟨hk.1, hk.2.1⟩, hk.2.2⟩)) hg (.inl rfl)); have n4_ := zm ((by rw [hw]; exact below_set (HB.out) GB29.out : Below w.heap.size w w32)); clear HO_5; clear HO_6; clear HO_7; clear HO_9; clear HB; have HO_5 := n0_; have HO_6 := n1_; have HO_7 := n2_; have HO_9 := n3_; have HB := n4_; clear n0_ n1_ n2_ n3_ n4_; clear hg hw hp_))
                    go_roundg k2
                    case measure => have := HJ2.out; have := HK2.out; omega
                    case rel => exact ⟨(y343), (wrap64 (x11_2 + 1)), (by first | rfl | (simp; done) | (simp [*]; done)), H', ⟨by have := HJ2.out; have := HK2.out; omega⟩, ⟨by (with_reducible repeat (first | apply zr1 | apply zr2 | apply zr3)); exact Kd.R_mono HO_5.out (fun _ hk => ⟨hk.1.1, ⟨hk.2, hk.1.2⟩⟩)⟩, ⟨by (with_reducible repeat (first | apply zr1 | apply zr2 | apply zr3)); exact Kd.R_mono HO_6.out (fun _ hk => ⟨hk.1.1, ⟨hk.2, hk.1.2⟩⟩)⟩, ⟨by (with_reducible repeat (first | apply zr1 | apply zr2 | apply zr3)); (first | exact HO_7.out | exact Kd.R_mono HO_7.out (fun k_ h_ => h_.1))⟩, ⟨by (with_reducible repeat (first | apply zr1 | apply zr2 | apply zr3)); exact Kd.R_mono HO_9.out (fun _ hk => ⟨hk.1.1, ⟨hk.1.2, hk.2⟩⟩)⟩, ⟨by repeat (first | (with_reducible first | exact HB.out | apply zb1 | apply zb2 | apply zb3) | exact HB.out)⟩⟩
                  · rw [if_neg c28] at H
                    exact absurd H (by simp)
                · rw [if_neg c27] at H
                  have c27b0 : decide (x11_2 < (x7_2.length : Int)) = false := decide_eq_false c27
                  clear c27
                  have H' := zm H
                  clear H
                  obtain ⟨Ao33, co33, eo33⟩ := Kd.R_slice HO_7.out
                  subst eo33
                  go_wp2
                  go_loopg [12] k2 (fun kq v12 w' => ∃ (x9_3 : List Int) (x12_3 : Int), v12 = .int .i64 x12_3 ∧ Aside0 (apostillelaw7_NatOwn.l1 kq l0 l1 y316 y322 x9_3 x12_3 = some r) ∧ Aside0 (kq ≤ k2) ∧ Aside0 (Kd.R (Kd.int .u32) 40 w' w.heap.size (fun k_ => some k_ ≠ ((.slice Ao22 y322.length co22) : Value).ownBlock ∧ some k_ ≠ (v339 : Value).ownBlock) (.slice Ao21 y316.length co21) y316) ∧ Aside0 (Kd.R (Kd.int .u32) 40 w' w.heap.size (fun k_ => some k_ ≠ ((.slice Ao21 y316.length co21) : Value).ownBlock ∧ some k_ ≠ (v339 : Value).ownBlock) (.slice Ao22 y322.length co22) y322) ∧ Aside0 (Kd.R (Kd.int .u32) 40 w' w.heap.size (fun k_ => some k_ ≠ ((.slice Ao21 y316.length co21) : Value).ownBlock ∧ some k_ ≠ ((.slice Ao22 y322.length co22) : Value).ownBlock) v339 x9_3) ∧ Aside0 (Below w.heap.size w w'))
                  case atStart => exact ⟨(t338), (0), (by first | rfl | (simp; done) | (simp [*]; done)), H', ⟨Nat.le_refl _⟩, ⟨by (with_reducible repeat (first | apply zr1 | apply zr2 | apply zr3)); exact Kd.R_mono HO_5.out (fun _ hk => ⟨hk.1, hk.2.2⟩)⟩, ⟨by (with_reducible repeat (first | apply zr1 | apply zr2 | apply zr3)); exact Kd.R_mono HO_6.out (fun _ hk => ⟨hk.1, hk.2.2⟩)⟩, ⟨by (with_reducible repeat (first | apply zr1 | apply zr2 | apply zr3)); exact Kd.R_mono HO_9.out (fun _ hk => ⟨hk.1, hk.2.1⟩)⟩, ⟨by repeat (first | (with_reducible first | exact HB.out | apply zb1 | apply zb2 | apply zb3) | exact HB.out)⟩⟩
                  case round =>
                    clear H'
                    try clear c1
                    try clear c2
                    try clear p2
                    try clear q2
                    try clear hx2
                    try clear hf2
                    try clear p3
                    try clear q3
                    try clear hx3
                    try clear c5
                    try clear p6
                    try clear c7
                    try clear c8
                    try clear c9
                    try clear c10
                    try clear c17
                    try clear c19
                    try clear c21
                    try clear c23
                    try clear c27
                    try clear c27b0
                    try clear c28
                    try clear c28b0
                    try clear p29
                    try clear q29
                    try clear hx29
                    try clear hf29
                    try clear hx29_0
                    try clear hx342_0
                    try clear p2
                    try clear p29
                    try clear p342
                    try clear p6
                    try clear q29
                    try clear q342
                    obtain ⟨x9_3, x12_3, rfl, HA, HK3, HO_5, HO_6, HO_9, HB⟩ := hrel
                    cases gk with
                    | zero => exact absurd HA.out (by simp [apostillelaw7_NatOwn.l1])
                    | succ k3 =>
                      have H := HA.out
                      clear HA
                      simp only [apostillelaw7_NatOwn.l1] at H
                      by_cases c34 : x12_3 < (x9_3.length : Int)
                      · rw [if_pos c34] at H
                        have c34b0 : decide (x12_3 < (x9_3.length : Int)) = true := decide_eq_true c34
                        clear c34
                        by_cases c35 : 0 ≤ x12_3
                        · rw [if_pos c35] at H
                          have c35b0 : decide (0 ≤ x12_3) = true := decide_eq_true c35
                          clear c35
                          obtain ⟨y345, hy345⟩ : ∃ y_ : List Int, y_ = (x9_3.set (x12_3 : Int).toNat (((rd x9_3 x12_3) + 1) % 4294967296)) := ⟨_, rfl⟩
                          replace H : (apostillelaw7_NatOwn.l1 k3 l0 l1 y316 y322 y345 (wrap64 (x12_3 + 1))) = some r := by first | (rw [hy345]; with_reducible exact H) | (have H2_ := (Option.bind_some _ _).symm.trans H; rw [hy345]; with_reducible exact H2_) | (have H2_ := (Option.bind_some _ _).symm.trans H; with_reducible exact H2_) | with_reducible exact H | (rw [hy345]; exact H) | exact H
                          have Ny345 := zm hy345
                          clear hy345
                          have H' := zm H
                          clear H
                          obtain ⟨Ao37, co37, eo37⟩ := Kd.R_slice HO_9.out
                          subst eo37
                          have p344 : 0 ≤ (x12_3 : Int) := of_decide_eq_true (by first | (with_reducible assumption) | assumption)
                          have q344 : x12_3 < (x9_3.length : Int) := of_decide_eq_true (by first | (with_reducible assumption) | assumption)
                          obtain ⟨ad344, e344, hx344_0⟩ := Kd.at_int (Kd.R_reads' HO_9.out).2.2 x12_3 p344 q344
                          cases e344
                          replace p344 := eq_true p344
                          replace q344 := eq_true q344
                          have p36 : 0 ≤ (x12_3 : Int) := of_decide_eq_true (by first | (with_reducible assumption) | assumption)
                          have q36 : (x12_3 : Int) < ((x9_3.length : Int) : Int) := of_decide_eq_true (by first | (with_reducible assumption) | assumption)
                          obtain ⟨go36, co36, eo36, gb36, gl36, cl36, HG36⟩ := Kd.R_form HO_9.out (by omega)
                          (first | cases eo36 | (injection eo36 with ea_ en_ ec_; (first | subst ea_ | (injection ea_ with ea_; subst ea_)); subst ec_; clear en_))
                          have GB36 := zm gb36
                          have GG36 := zm HG36
                          clear gb36 gl36 HG36
                          (first | simp only [add_plain] at hx344_0 | skip)
                          obtain ⟨hx36_0, hf36_0⟩ := Kd.R_celln 0 HO_9.out (x12_3 : Int) p36 q36
                          replace p36 := eq_true p36
                          replace q36 := eq_true q36
                          have HP38 := Kd.R_putg HO_9.out (x12_3 : Int) (((rd x9_3 x12_3) + 1) % 4294967296)
                          go_wp2_with (first | ((with_reducible refine gate_store (t := 40) (p := 74) rfl ?_); refine store_event (t := 40) (p := 74) (v := ?vo_w39) (w1 := (wr.setCell ⟨go36, (x12_3 : Int).toNat, none⟩ (.int .u32 (((rd x9_3 x12_3) + 1) % 4294967296)))) ?hg ?ho ?hn ?hr ?_; (case ho => rfl); (case hg => rfl); (case hn => rfl); (case hr => first | (go_simp; done) | (go_simp; rfl)); intro w39 hw; have hg : wr.grownBy w39 (some go36) := (by rw [hw]; exact HP38.2); have hp_ : Kd.R (Kd.int .u32) 40 w39 w.heap.size (fun k_ => some k_ ≠ (.slice Ao21 y316.length co21 : Value).ownBlock ∧ some k_ ≠ (.slice Ao22 y322.length co22 : Value).ownBlock) (.slice (some ⟨go36, 0, none⟩) x9_3.length co37) y345 := (by rw [hw, Ny345.out]; exact HP38.1); clear HP38; have n0_ := zm (Kd.R_after (v := (.slice (some ⟨go36, 0, none⟩) x9_3.length co37)) (v1 := (.slice (some ⟨go36, 0, none⟩) x9_3.length co37)) (ok := (fun k_ => some k_ ≠ (.slice Ao22 y322.length co22 : Value).ownBlock)) (by (with_reducible repeat (first | apply zr1 | apply zr2 | apply zr3)); exact HO_5.out) hg (.inl rfl)); have n1_ := zm (Kd.R_after (v := (.slice (some ⟨go36, 0, none⟩) x9_3.length co37)) (v1 := (.slice (some ⟨go36, 0, none⟩) x9_3.length co37)) (ok := (fun k_ => some k_ ≠ (.slice Ao21 y316.length co21 : Value).ownBlock)) (by (with_reducible repeat (first | apply zr1 | apply zr2 | apply zr3)); exact HO_6.out) hg (.inl rfl)); have n2_ := zm (hp_); have n3_ := zm ((by rw [hw]; exact below_set (HB.out) GB36.out : Below w.heap.size w w39)); clear HO_5; clear HO_6; clear HO_9; clear HB; have HO_5 := n0_; have HO_6 := n1_; have HO_9 := n2_; have HB := n3_; clear n0_ n1_ n2_ n3_; clear hg hw hp_))
                          go_roundg k3
                          case measure => have := HJ2.out; have := HK2.out; have := HK3.out; omega
                          case rel => exact ⟨(y345), (wrap64 (x12_3 + 1)), (by first | rfl | (simp; done) | (simp [*]; done)), H', ⟨by have := HJ2.out; have := HK2.out; have := HK3.out; omega⟩, ⟨by (with_reducible repeat (first | apply zr1 | apply zr2 | apply zr3)); (first | exact HO_5.out | exact Kd.R_mono HO_5.out (fun k_ h_ => h_.1))⟩, ⟨by (with_reducible repeat (first | apply zr1 | apply zr2 | apply zr3)); (first | exact HO_6.out | exact Kd.R_mono HO_6.out (fun k_ h_ => h_.1))⟩, ⟨by (with_reducible repeat (first | apply zr1 | apply zr2 | apply zr3)); (first | exact HO_9.out | exact Kd.R_mono HO_9.out (fun k_ h_ => h_.1))⟩, ⟨by repeat (first | (with_reducible first | exact HB.out | apply zb1 | apply zb2 | apply zb3) | exact HB.out)⟩⟩
                        · rw [if_neg c35] at H
                          exact absurd H (by simp)
                      · rw [if_neg c34] at H
                        have c34b0 : decide (x12_3 < (x9_3.length : Int)) = false := decide_eq_false c34
                        clear c34
                        replace H := Option.bind_eq_some_iff.mp H
                        obtain ⟨t346, A400, H⟩ := H
                        replace H : (if t346 = true then ((apostillelaw7_same.f k3 y322 l1).bind fun t347 => (if t347 = true then ((apostillelaw7_known.f k3).bind fun t348 => (some t348)) else (some false))) else (some false)) = some r := H
                        have A40 := zm A400
                        clear A400
                        by_cases c41 : t346 = true
                        · subst c41
                          have H1 : ((apostillelaw7_same.f k3 y322 l1).bind fun t347 => (if t347 = true then ((apostillelaw7_known.f k3).bind fun t348 => (some t348)) else (some false))) = some r := by rw [if_pos rfl] at H; exact H
                          clear H
                          have H := H1
                          clear H1
                          replace H := Option.bind_eq_some_iff.mp H
                          obtain ⟨t347, A420, H⟩ := H
                          replace H : (if t347 = true then ((apostillelaw7_known.f k3).bind fun t348 => (some t348)) else (some false)) = some r := H
                          have A42 := zm A420
                          clear A420
                          by_cases c43 : t347 = true
                          · subst c43
                            have H1 : ((apostillelaw7_known.f k3).bind fun t348 => (some t348)) = some r := by rw [if_pos rfl] at H; exact H
                            clear H
                            have H := H1
                            clear H1
                            replace H := Option.bind_eq_some_iff.mp H
                            obtain ⟨t348, A440, H⟩ := H
                            replace H : (some t348) = some r := H
                            have A44 := zm A440
                            clear A440
                            obtain rfl := Option.some.inj H
                            obtain ⟨Ao45, co45, eo45⟩ := Kd.R_slice HO_9.out
                            subst eo45
                            go_wp2_with (first | ((with_reducible refine gate_callee (f := 13) rfl ?_); refine goesL_ (some 77) rfl rfl Try.func13 (by kernel_rfl) rfl #[.slice Ao21 y316.length co21, .slice A0 l0.length c0] rfl (by (try simp only [zl1, zl2, zl3]); first | done | rfl | (simp only [List.length_drop, List.length_take]; rfl)) ?_; (with_reducible refine (apostillelaw7_same.calls k3 _ _ y316 _ _ l0 true _ ?side1 ?side2 ?side3 ?side4 A40.out).mono ?_); (case side1 => repeat (first | exact (Kd.R_reads' HO_5.out).2.2 | (with_reducible refine zc1 ?_ _) | (with_reducible refine zc2 ?_ _) | (with_reducible refine zc3 ?_))); (case side2 => exact (Kd.R_reads' HO_5.out).2.1); (case side3 => repeat (first | exact (Kd.C_below HR0.out HB.out) | (with_reducible refine zc1 ?_ _) | (with_reducible refine zc2 ?_ _) | (with_reducible refine zc3 ?_))); (case side4 => exact HC0.out); rintro e w' ⟨rfl, ⟨nd, rfl⟩⟩; refine ⟨_, rfl, ?_⟩) | (go_at_call 13; (with_reducible refine (apostillelaw7_same.calls k3 _ _ y322 _ _ l1 true _ ?side1 ?side2 ?side3 ?side4 A42.out).mono ?_); (case side1 => repeat (first | exact (Kd.R_reads' HO_6.out).2.2 | (with_reducible refine zc1 ?_ _) | (with_reducible refine zc2 ?_ _) | (with_reducible refine zc3 ?_))); (case side2 => exact (Kd.R_reads' HO_6.out).2.1); (case side3 => repeat (first | exact (Kd.C_below HR1.out (by repeat (first | (with_reducible first | exact HB.out | apply zb1 | apply zb2 | apply zb3) | exact HB.out))) | (with_reducible refine zc1 ?_ _) | (with_reducible refine zc2 ?_ _) | (with_reducible refine zc3 ?_))); (case side4 => exact HC1.out); rintro e w' ⟨rfl, ⟨nd, rfl⟩⟩; (try clear A42)) | (go_at_call 16; (with_reducible refine (apostillelaw7_known.calls k3  t348 _ A44.out).mono ?_); rintro e w46 ⟨rfl, hb⟩; have n0_ := zm (Kd.R_below (by (with_reducible repeat (first | apply zr1 | apply zr2 | apply zr3)); exact HO_5.out) hb); have n1_ := zm (Kd.R_below (by (with_reducible repeat (first | apply zr1 | apply zr2 | apply zr3)); exact HO_6.out) hb); have n2_ := zm (Kd.R_below (by (with_reducible repeat (first | apply zr1 | apply zr2 | apply zr3)); exact HO_9.out) hb); have n3_ := zm (below_step (by repeat (first | (with_reducible first | exact HB.out | apply zb1 | apply zb2 | apply zb3) | exact HB.out)) hb); clear HO_5; clear HO_6; clear HO_9; clear HB; have HO_5 := n0_; have HO_6 := n1_; have HO_9 := n2_; have HB := n3_; clear n0_ n1_ n2_ n3_; (try clear hb); (try clear hb2); (try clear hk); (try clear hi); (try clear A44)))
                            go_ret
                            exact ⟨by first | rfl | (simp [errW_none, errW_some] <;> rfl) | (simp [*, errW_none, errW_some] <;> rfl), by repeat (first | (with_reducible first | exact HB.out | apply zb1 | apply zb2 | apply zb3) | exact HB.out)⟩
                          · replace c43 := Bool.eq_false_iff.mpr c43
                            subst c43
                            have H1 : (some false) = some r := by rw [if_neg (show ¬ (false = true) by decide)] at H; exact H
                            clear H
                            have H := H1
                            clear H1
                            exact absurd (Option.some.inj H) (by rw [hrT]; decide)
                        · replace c41 := Bool.eq_false_iff.mpr c41
                          subst c41
                          have H1 : (some false) = some r := by rw [if_neg (show ¬ (false = true) by decide)] at H; exact H
                          clear H
                          have H := H1
                          clear H1
                          exact absurd (Option.some.inj H) (by rw [hrT]; decide)
          · rw [if_neg c10] at H
            exact absurd H (by simp)
        · rw [if_neg c9] at H
          exact absurd H (by simp)

/-- THE ONE PURE STATEMENT of apostillelaw7_NatOwn: yours. -/
def apostillelaw7_NatOwn.Pure : Prop := ∀ (l0 : List Int) (l1 : List Int), l0.length ≤ maxLen → l0.length * 4 ≤ 140737488351232 → (∀ x ∈ l0, (Lit.int .u32 x).wf = true) → l1.length ≤ maxLen → l1.length * 4 ≤ 140737488351232 → (∀ x ∈ l1, (Lit.int .u32 x).wf = true) → ∃ k, apostillelaw7_NatOwn.f k l0 l1 = some true
theorem apostillelaw7_NatOwn.walk (P : apostillelaw7_NatOwn.Pure) (a0 : Option Addr) (len0 cap0 : Nat) (z0 : List Int) (a1 : Option Addr) (len1 cap1 : Nat) (z1 : List Int) (w : World) (w0 : (a0 = none ∧ len0 = 0 ∧ cap0 = 0 ∧ z0 = []) ∨ ∃ x, a0 = some x ∧ len0 ≤ cap0 ∧ cap0 ≤ maxLen ∧ z0.length = cap0 ∧ (∀ i, i < z0.length → w.cell? (x.add i) = some (.int .u32 (z0.getD i 0))) ∧ ∀ n ∈ z0, (Lit.int .u32 n).wf = true) (y0 : len0 * 4 ≤ 140737488351232) (w1 : (a1 = none ∧ len1 = 0 ∧ cap1 = 0 ∧ z1 = []) ∨ ∃ x, a1 = some x ∧ len1 ≤ cap1 ∧ cap1 ≤ maxLen ∧ z1.length = cap1 ∧ (∀ i, i < z1.length → w.cell? (x.add i) = some (.int .u32 (z1.getD i 0))) ∧ ∀ n ∈ z1, (Lit.int .u32 n).wf = true) (y1 : len1 * 4 ≤ 140737488351232) :
    Calls Try.prog 8 #[.slice a0 len0 cap0, .slice a1 len1 cap1] w fun e w' => e = .returned (.bool true) ∧ Below w.heap.size w w' := by
  obtain ⟨l0, rfl, hr0, hm0, hw0, hc0⟩ := ReadsInt.ofRowC w0
  obtain ⟨l1, rfl, hr1, hm1, hw1, hc1⟩ := ReadsInt.ofRowC w1
  obtain ⟨k, h⟩ := P l0 l1 hm0 y0 hw0 hm1 y1 hw1
  refine (apostillelaw7_NatOwn.calls k _ _ l0 _ _ l1 true w (Kd.C_of_reads (d := (0 : Int)) (h1 := fun _ => rfl) hr0) hc0 (Kd.C_of_reads (d := (0 : Int)) (h1 := fun _ => rfl) hr1) hc1 rfl h).mono ?_
  rintro e w' ⟨rfl, hd⟩
  exact ⟨rfl, hd⟩

end Go.Proofs.Ytlmjbhhapllfgaa.A
