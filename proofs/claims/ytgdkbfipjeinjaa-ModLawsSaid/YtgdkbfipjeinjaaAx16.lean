-- a text of this claim
import Derived.Test.YtgdkbfipjeinjaaAx10
import Derived.Test.YtgdkbfipjeinjaaAx11
import Derived.Test.YtgdkbfipjeinjaaAx0
namespace Go.Proofs.Ytgdkbfipjeinjaa.A
open Go.RowKit Go.Proofs.YtgdkbfipjeinjaaW.PrintWords Go.Proofs.YtgdkbfipjeinjaaW.PrintLast Go.Proofs.YtgdkbfipjeinjaaW.PrintMore
attribute [local go_sem] max2_int min2_int max_two min_two max_three min_three max_four min_four   -- for this text's walks alone
set_option linter.unusedVariables false
set_option linter.unusedSimpArgs false

/-! ### apostilleref8_Exp: function 10 -/
/-! ### apostilleref7_Add: function 22 -/
def apostilleref7_Add.l0 : Nat → List Int → List Int → Int → List Int → Int → Int → Option (List Int)
  | 0, _, _, _, _, _, _ => none
  | k + 1, x0, x1, x5, x6, x7, x8 => if x8 < x5 then ((apostilleref7_digit.f x0 x8).bind fun t548 => ((apostilleref7_digit.f x1 x8).bind fun t549 => (if 0 ≤ x8 then (if x8 < (x6.length : Int) then (apostilleref7_Add.l0 k x0 x1 x5 (x6.set (x8 : Int).toNat ((IntKind.u64.wrap ((IntKind.u64.wrap (t548 + t549)) + x7)) % 4294967296)) ((IntKind.u64.wrap ((IntKind.u64.wrap (t548 + t549)) + x7)) / 4294967296) (wrap64 (x8 + 1))) else (none)) else (none)))) else ((apostilleref7_Trim.f k x6).bind fun t551 => (some t551))
def apostilleref7_Add.f (k : Nat) (l0 : List Int) (l1 : List Int) : Option (List Int) := if 0 ≤ (wrap64 ((mx (l0.length : Int) (l1.length : Int)) + 1)) then (if (wrap64 ((mx (l0.length : Int) (l1.length : Int)) + 1) : Int).toNat ≤ 70368744177664 then (apostilleref7_Add.l0 k l0 l1 (wrap64 ((mx (l0.length : Int) (l1.length : Int)) + 1)) (List.replicate (wrap64 ((mx (l0.length : Int) (l1.length : Int)) + 1) : Int).toNat 0) 0 0) else (none)) else (none)
set_option maxHeartbeats 8000000 in
set_option maxRecDepth 100000 in
theorem apostilleref7_Add.calls (k : Nat) (A0 : Option Addr) (c0 : Nat) (l0 : List Int) (A1 : Option Addr) (c1 : Nat) (l1 : List Int) (r : List Int) (w : World) (hr0 : Kd.C (Kd.int .u32) w A0 l0.length l0) (hc0 : l0.length ≤ c0) (hr1 : Kd.C (Kd.int .u32) w A1 l1.length l1) (hc1 : l1.length ≤ c1) (h : apostilleref7_Add.f k l0 l1 = some r) :
    Calls Try.prog 22 #[.slice A0 l0.length c0, .slice A1 l1.length c1] w fun e w' => ∃ v0_ : Value, e = .returned (v0_) ∧ Kd.V (Kd.int .u32) 31 w' w.heap.size (fun k_ => (w.heap.size ≤ k_)) v0_ r ∧ Below w.heap.size w w' := by
  have HR0 := zm hr0
  have HC0 := zm hc0
  clear hr0 hc0
  have HR1 := zm hr1
  have HC1 := zm hc1
  clear hr1 hc1
  have HB := zm (Below.refl w.heap.size w)
  have H : (if 0 ≤ (wrap64 ((mx (l0.length : Int) (l1.length : Int)) + 1)) then (if (wrap64 ((mx (l0.length : Int) (l1.length : Int)) + 1) : Int).toNat ≤ 70368744177664 then (apostilleref7_Add.l0 k l0 l1 (wrap64 ((mx (l0.length : Int) (l1.length : Int)) + 1)) (List.replicate (wrap64 ((mx (l0.length : Int) (l1.length : Int)) + 1) : Int).toNat 0) 0 0) else (none)) else (none)) = some r := h
  clear h
  obtain ⟨ji3, hji3⟩ : ∃ j_ : Int, (mx (l0.length : Int) (l1.length : Int)) = j_ := ⟨_, rfl⟩
  replace H : (if 0 ≤ (wrap64 ((ji3) + 1)) then (if (wrap64 ((ji3) + 1) : Int).toNat ≤ 70368744177664 then (apostilleref7_Add.l0 k l0 l1 (wrap64 ((ji3) + 1)) (List.replicate (wrap64 ((ji3) + 1) : Int).toNat 0) 0 0) else (none)) else (none)) = some r := by first | (rw [hji3] at H; exact H) | (simp only [hji3] at H ⊢; exact H)
  (try (have hji3l : 0 ≤ ji3 := by (rw [← hji3]; unfold mx; (repeat' split) <;> omega)))
  (try (have hji3m : 0 ≤ ji3 := by omega))
  have hji3_ : (if (l0.length : Int) < (l1.length : Int) then (l1.length : Int) else (l0.length : Int)) = ji3 := hji3
  have hji3n : (if l0.length < l1.length then (l1.length : Int) else (l0.length : Int)) = ji3 := by have h_ := hji3_; simp only [Int.ofNat_lt] at h_; exact h_
  obtain ⟨ji4, hji4⟩ : ∃ j_ : Int, (wrap64 ((ji3) + 1)) = j_ := ⟨_, rfl⟩
  replace H : (if 0 ≤ (ji4) then (if (ji4 : Int).toNat ≤ 70368744177664 then (apostilleref7_Add.l0 k l0 l1 ji4 (List.replicate (ji4 : Int).toNat 0) 0 0) else (none)) else (none)) = some r := by first | (rw [hji4] at H; exact H) | (simp only [hji4] at H ⊢; exact H)
  have hji4w : (IntKind.i64.wrap ((ji3) + 1)) = ji4 := (i64_w _).trans hji4
  by_cases c5 : 0 ≤ (ji4)
  · rw [if_pos c5] at H
    have c5b0 := eq_true c5
    have c5b1 : decide (0 ≤ (ji4)) = true := decide_eq_true c5
    clear c5
    by_cases c6 : (ji4 : Int).toNat ≤ 70368744177664
    · rw [if_pos c6] at H
      have c6b0 := eq_true c6
      have c6b1 : decide ((ji4 : Int).toNat ≤ 70368744177664) = true := decide_eq_true c6
      clear c6
      obtain ⟨y545, hy545⟩ : ∃ y_ : List Int, y_ = (List.replicate (ji4 : Int).toNat 0) := ⟨_, rfl⟩
      replace H : (apostilleref7_Add.l0 k l0 l1 ji4 y545 0 0) = some r := by first | (rw [hy545]; with_reducible exact H) | (have H2_ := (Option.bind_some _ _).symm.trans H; rw [hy545]; with_reducible exact H2_) | (have H2_ := (Option.bind_some _ _).symm.trans H; with_reducible exact H2_) | with_reducible exact H | (rw [hy545]; exact H) | exact H
      have Ny545 := zm hy545
      clear hy545
      have H' := zm H
      clear H
      go_enter Try.func22, Try.ntmps22
      go_wp2_with (first | ((with_reducible refine gate_dst (N := 17) rfl ?_); refine Kd.R_make (Kd.int .u32) _ 31 rfl (N := 17) rfl 23 _ _ rfl ji4 rfl rfl Try.underlying23 (.int .u32 0) 4 info31 rfl (by decide) (by omega) 0 (ok := fun _ => True) (okp := fun _ => True) rfl (fun _ hk => hk) trivial (of_decide_eq_true (by first | (with_reducible assumption) | assumption)) (Nat.le_trans (Nat.mul_le_mul_right _ (of_decide_eq_true (by first | (with_reducible assumption) | assumption) : ji4.toNat ≤ 70368744177664)) (by omega)) (Below.refl _ _) (Nat.le_refl _) ?_; intro v546 w7 ho8 hb hg_ hnew_; clear hg_ hnew_; (first | rw [← Ny545.out] at ho8 | (simp only [Int.reduceToNat] at ho8; rw [← Ny545.out] at ho8)); have n0_ := zm (Kd.R_lower (Kd.R_newM (M := fun k_ => (w.heap.size ≤ k_)) ho8 (below_size (by repeat (first | (with_reducible first | exact HB.out | apply zb1 | apply zb2 | apply zb3) | exact HB.out))) (fun k_ h_ => h_)) (below_size (by repeat (first | (with_reducible first | exact HB.out | apply zb1 | apply zb2 | apply zb3) | exact HB.out)))); have n1_ := zm (below_step (by repeat (first | (with_reducible first | exact HB.out | apply zb1 | apply zb2 | apply zb3) | exact HB.out)) hb); clear HB; have HO547 := n0_; have HB := n1_; clear n0_ n1_; clear hb ho8))
      go_loopg [7, 8] k (fun kq v7 v8 w' => ∃ (x6_1 : List Int) (x7_1 : Int) (x8_1 : Int), v7 = .int .u64 x7_1 ∧ v8 = .int .i64 x8_1 ∧ Aside0 (apostilleref7_Add.l0 kq l0 l1 ji4 x6_1 x7_1 x8_1 = some r) ∧ Aside0 (kq ≤ k) ∧ Aside0 (Kd.R (Kd.int .u32) 31 w' w.heap.size (fun k_ => (w.heap.size ≤ k_)) v546 x6_1) ∧ Aside0 (Below w.heap.size w w'))
      case atStart => exact ⟨(y545), (0), (0), (by first | rfl | (simp; done) | (simp [*]; done)), (by first | rfl | (simp; done) | (simp [*]; done)), H', ⟨Nat.le_refl _⟩, ⟨by (with_reducible repeat (first | apply zr1 | apply zr2 | apply zr3)); exact Kd.R_mono HO547.out (fun _ hk => hk.1)⟩, ⟨by repeat (first | (with_reducible first | exact HB.out | apply zb1 | apply zb2 | apply zb3) | exact HB.out)⟩⟩
      case round =>
        clear H'
        try clear c1
        try clear c2
        try clear p2
        try clear c5
        try clear c5b0
        try clear c5b1
        try clear c6
        try clear c6b0
        try clear c6b1
        try clear p6
        obtain ⟨x6_1, x7_1, x8_1, rfl, rfl, HA, HK1, HO_6, HB⟩ := hrel
        cases gk with
        | zero => exact absurd HA.out (by simp [apostilleref7_Add.l0])
        | succ k1 =>
          have H := HA.out
          clear HA
          simp only [apostilleref7_Add.l0] at H
          by_cases c9 : x8_1 < ji4
          · rw [if_pos c9] at H
            have c9b0 : decide (x8_1 < ji4) = true := decide_eq_true c9
            clear c9
            replace H := Option.bind_eq_some_iff.mp H
            obtain ⟨t548, A100, H⟩ := H
            replace H : ((apostilleref7_digit.f l1 x8_1).bind fun t549 => (if 0 ≤ x8_1 then (if x8_1 < (x6_1.length : Int) then (apostilleref7_Add.l0 k1 l0 l1 ji4 (x6_1.set (x8_1 : Int).toNat ((IntKind.u64.wrap ((IntKind.u64.wrap (t548 + t549)) + x7_1)) % 4294967296)) ((IntKind.u64.wrap ((IntKind.u64.wrap (t548 + t549)) + x7_1)) / 4294967296) (wrap64 (x8_1 + 1))) else (none)) else (none))) = some r := H
            have A10 := zm A100
            clear A100
            replace H := Option.bind_eq_some_iff.mp H
            obtain ⟨t549, A110, H⟩ := H
            replace H : (if 0 ≤ x8_1 then (if x8_1 < (x6_1.length : Int) then (apostilleref7_Add.l0 k1 l0 l1 ji4 (x6_1.set (x8_1 : Int).toNat ((IntKind.u64.wrap ((IntKind.u64.wrap (t548 + t549)) + x7_1)) % 4294967296)) ((IntKind.u64.wrap ((IntKind.u64.wrap (t548 + t549)) + x7_1)) / 4294967296) (wrap64 (x8_1 + 1))) else (none)) else (none)) = some r := H
            have A11 := zm A110
            clear A110
            by_cases c12 : 0 ≤ x8_1
            · rw [if_pos c12] at H
              have c12b0 : decide (0 ≤ x8_1) = true := decide_eq_true c12
              clear c12
              by_cases c13 : x8_1 < (x6_1.length : Int)
              · rw [if_pos c13] at H
                have c13b0 : decide (x8_1 < (x6_1.length : Int)) = true := decide_eq_true c13
                clear c13
                obtain ⟨y550, hy550⟩ : ∃ y_ : List Int, y_ = (x6_1.set (x8_1 : Int).toNat ((IntKind.u64.wrap ((IntKind.u64.wrap (t548 + t549)) + x7_1)) % 4294967296)) := ⟨_, rfl⟩
                replace H : (apostilleref7_Add.l0 k1 l0 l1 ji4 y550 ((IntKind.u64.wrap ((IntKind.u64.wrap (t548 + t549)) + x7_1)) / 4294967296) (wrap64 (x8_1 + 1))) = some r := by first | (rw [hy550]; with_reducible exact H) | (have H2_ := (Option.bind_some _ _).symm.trans H; rw [hy550]; with_reducible exact H2_) | (have H2_ := (Option.bind_some _ _).symm.trans H; with_reducible exact H2_) | with_reducible exact H | (rw [hy550]; exact H) | exact H
                have Ny550 := zm hy550
                clear hy550
                have H' := zm H
                clear H
                go_wp2_with (first | ((with_reducible refine gate_callee (f := 36) rfl ?_); refine goesL_ (some 25) rfl rfl Try.func36 (by kernel_rfl) rfl #[.slice A0 l0.length c0, .int .i64 x8_1] rfl (by (try simp only [zl1, zl2, zl3]); first | done | rfl | (simp only [List.length_drop, List.length_take]; rfl)) ?_; (with_reducible refine (apostilleref7_digit.calls _ _ l0 x8_1 t548 _ ?side1 ?side2 A10.out).mono ?_); (case side1 => repeat (first | exact (Kd.C_below HR0.out HB.out) | (with_reducible refine zc1 ?_ _) | (with_reducible refine zc2 ?_ _) | (with_reducible refine zc3 ?_))); (case side2 => exact HC0.out); rintro e w' ⟨rfl, ⟨nd, rfl⟩⟩; refine ⟨_, rfl, ?_⟩; (try (rw [drewN_self wr]; generalize hq_ : World.drewN wr _ = wr; have n0_ : Aside0 (Kd.R (Kd.int .u32) 31 wr w.heap.size (fun k_ => (w.heap.size ≤ k_)) v546 x6_1) := ⟨by rw [← hq_]; exact (by (with_reducible repeat (first | apply zr1 | apply zr2 | apply zr3)); exact HO_6.out)⟩; have n1_ : Aside0 (Below w.heap.size w wr) := ⟨by rw [← hq_]; exact (by repeat (first | (with_reducible first | exact HB.out | apply zb1 | apply zb2 | apply zb3) | exact HB.out))⟩; clear HO_6 HB hq_; have HO_6 := n0_; have HB := n1_; clear n0_ n1_))) | ((with_reducible refine gate_callee (f := 36) rfl ?_); refine goesL_ (some 28) rfl rfl Try.func36 (by kernel_rfl) rfl #[.slice A1 l1.length c1, .int .i64 x8_1] rfl (by (try simp only [zl1, zl2, zl3]); first | done | rfl | (simp only [List.length_drop, List.length_take]; rfl)) ?_; (with_reducible refine (apostilleref7_digit.calls _ _ l1 x8_1 t549 _ ?side1 ?side2 A11.out).mono ?_); (case side1 => repeat (first | exact (Kd.C_below HR1.out HB.out) | (with_reducible refine zc1 ?_ _) | (with_reducible refine zc2 ?_ _) | (with_reducible refine zc3 ?_))); (case side2 => exact HC1.out); rintro e w' ⟨rfl, ⟨nd, rfl⟩⟩; refine ⟨_, rfl, ?_⟩; (try (rw [drewN_self wr]; generalize hq_ : World.drewN wr _ = wr; have n0_ : Aside0 (Kd.R (Kd.int .u32) 31 wr w.heap.size (fun k_ => (w.heap.size ≤ k_)) v546 x6_1) := ⟨by rw [← hq_]; exact (by (with_reducible repeat (first | apply zr1 | apply zr2 | apply zr3)); exact HO_6.out)⟩; have n1_ : Aside0 (Below w.heap.size w wr) := ⟨by rw [← hq_]; exact (by repeat (first | (with_reducible first | exact HB.out | apply zb1 | apply zb2 | apply zb3) | exact HB.out))⟩; clear HO_6 HB hq_; have HO_6 := n0_; have HB := n1_; clear n0_ n1_)); have p14 : 0 ≤ (x8_1 : Int) := of_decide_eq_true (by first | (with_reducible assumption) | assumption); have q14 : (x8_1 : Int) < ((x6_1.length : Int) : Int) := of_decide_eq_true (by first | (with_reducible assumption) | assumption); obtain ⟨go14, co14, eo14, gb14, gl14, cl14, HG14⟩ := Kd.R_form HO_6.out (by omega); (first | cases eo14 | (injection eo14 with ea_ en_ ec_; (first | subst ea_ | (injection ea_ with ea_; subst ea_)); subst ec_; clear en_)); have GB14 := zm gb14; have GG14 := zm HG14; clear gb14 gl14 HG14; obtain ⟨hx14_0, hf14_0⟩ := Kd.R_celln 0 HO_6.out (x8_1 : Int) p14 q14; replace p14 := eq_true p14; replace q14 := eq_true q14; obtain ⟨hy15_, hz15_⟩ := Kd.R_celln 0 HO_6.out (x8_1 : Int) (of_decide_eq_true (by first | (with_reducible assumption) | assumption)) (of_decide_eq_true (by first | (with_reducible assumption) | assumption)); have HP15 := Kd.R_putg HO_6.out (x8_1 : Int) ((IntKind.u64.wrap ((IntKind.u64.wrap (t548 + t549)) + x7_1)) % 4294967296)) | ((with_reducible refine gate_store (t := 31) (p := 36) rfl ?_); refine store_event (t := 31) (p := 36) (v := ?vo_w16) (w1 := (wr.setCell ⟨go14, (x8_1 : Int).toNat, none⟩ (.int .u32 ((IntKind.u64.wrap ((IntKind.u64.wrap (t548 + t549)) + x7_1)) % 4294967296)))) ?hg ?ho ?hn ?hr ?_; (case ho => rfl); (case hg => rfl); (case hn => rfl); (case hr => first | (go_simp; done) | (go_simp; rfl)); intro w16 hw; have hg : wr.grownBy w16 (some go14) := (by rw [hw]; exact HP15.2); have hp_ : Kd.R (Kd.int .u32) 31 w16 w.heap.size (fun k_ => (w.heap.size ≤ k_)) (.slice (some ⟨go14, 0, none⟩) x6_1.length co14) y550 := (by rw [hw, Ny550.out]; exact HP15.1); clear HP15; have n0_ := zm (hp_); have n1_ := zm ((by rw [hw]; exact below_set (HB.out) GB14.out : Below w.heap.size w w16)); clear HO_6; clear HB; have HO_6 := n0_; have HB := n1_; clear n0_ n1_; clear hg hw hp_))
                go_roundg k1
                case measure => have := HK1.out; omega
                case rel => exact ⟨(y550), ((IntKind.u64.wrap ((IntKind.u64.wrap (t548 + t549)) + x7_1)) / 4294967296), (wrap64 (x8_1 + 1)), (by first | rfl | (simp; done) | (simp [*]; done)), (by first | rfl | (simp; done) | (simp [*]; done)), H', ⟨by have := HK1.out; omega⟩, ⟨by (with_reducible repeat (first | apply zr1 | apply zr2 | apply zr3)); (first | exact HO_6.out | exact Kd.R_mono HO_6.out (fun k_ h_ => h_.1))⟩, ⟨by repeat (first | (with_reducible first | exact HB.out | apply zb1 | apply zb2 | apply zb3) | exact HB.out)⟩⟩
              · rw [if_neg c13] at H
                exact absurd H (by simp)
            · rw [if_neg c12] at H
              exact absurd H (by simp)
          · rw [if_neg c9] at H
            have c9b0 : decide (x8_1 < ji4) = false := decide_eq_false c9
            clear c9
            replace H := Option.bind_eq_some_iff.mp H
            obtain ⟨t551, A170, H⟩ := H
            replace H : (some t551) = some r := H
            have A17 := zm A170
            clear A170
            obtain rfl := Option.some.inj H
            obtain ⟨Ao18, co18, eo18⟩ := Kd.R_slice HO_6.out
            subst eo18
            go_wp2_with (first | ((with_reducible refine gate_callee (f := 37) rfl ?_); refine goesL_ (some 40) rfl rfl Try.func37 (by kernel_rfl) rfl #[.slice Ao18 x6_1.length co18] rfl (by (try simp only [zl1, zl2, zl3]); first | done | rfl | (simp only [List.length_drop, List.length_take]; rfl)) ?_; (with_reducible refine (apostilleref7_Trim.calls k1 (fun k_ => some k_ = (.slice Ao18 x6_1.length co18 : Value).ownBlock) _ _ x6_1 t551 _ ?side1 A17.out).mono ?_); (case side1 => exact Kd.R_V (Kd.R_tight rfl (HO_6.out))); rintro e w19 ⟨v552, rfl, ho0, hb⟩; refine ⟨_, rfl, ?_⟩; have n0_ := zm (Kd.R_below (by (with_reducible repeat (first | apply zr1 | apply zr2 | apply zr3)); exact HO_6.out) hb); have n1_ := zm (Kd.V_lower (Kd.V_mono (ok' := fun k_ => (w.heap.size ≤ k_)) ho0 (fun k_ hk_ => Or.elim hk_ (fun hs_ => ((HO_6.out).1 k_ hs_.symm)) (fun hn_ => (Nat.le_trans (below_size (by repeat (first | (with_reducible first | exact HB.out | apply zb1 | apply zb2 | apply zb3) | exact HB.out))) hn_)))) (below_size (by repeat (first | (with_reducible first | exact HB.out | apply zb1 | apply zb2 | apply zb3) | exact HB.out)))); have n2_ := zm (below_step (by repeat (first | (with_reducible first | exact HB.out | apply zb1 | apply zb2 | apply zb3) | exact HB.out)) hb); clear HO_6; clear HB; have HO_6 := n0_; have HO553 := n1_; have HB := n2_; clear n0_ n1_ n2_; (try clear hb); (try clear hb2); (try clear hk); (try clear hi); (try clear ho0)))
            go_ret
            exact ⟨_, by first | rfl | (simp [errW_none, errW_some] <;> rfl) | (simp only [← hji3, ← hji4]; first | rfl | (simp [errW_none, errW_some] <;> rfl)) | (simp [*, errW_none, errW_some] <;> rfl), by (with_reducible repeat (first | apply zv1 | apply zv2 | apply zv3)); exact HO553.out, by repeat (first | (with_reducible first | exact HB.out | apply zb1 | apply zb2 | apply zb3) | exact HB.out)⟩
    · rw [if_neg c6] at H
      exact absurd H (by simp)
  · rw [if_neg c5] at H
    exact absurd H (by simp)

/-! ### apostilleref7_Sub: function 35 -/
end Go.Proofs.Ytgdkbfipjeinjaa.A
