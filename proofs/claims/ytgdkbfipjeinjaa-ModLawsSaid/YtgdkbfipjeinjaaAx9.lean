-- a text of this claim
import Derived.Test.YtgdkbfipjeinjaaAx1
import Derived.Test.YtgdkbfipjeinjaaAx2
import Derived.Test.YtgdkbfipjeinjaaAx4
import Derived.Test.YtgdkbfipjeinjaaAx6
import Derived.Test.YtgdkbfipjeinjaaAx7
import Derived.Test.YtgdkbfipjeinjaaAx8
import Derived.Test.YtgdkbfipjeinjaaAx0
namespace Go.Proofs.Ytgdkbfipjeinjaa.A
open Go.RowKit Go.Proofs.YtgdkbfipjeinjaaW.PrintWords Go.Proofs.YtgdkbfipjeinjaaW.PrintLast Go.Proofs.YtgdkbfipjeinjaaW.PrintMore
attribute [local go_sem] max2_int min2_int max_two min_two max_three min_three max_four min_four   -- for this text's walks alone
set_option linter.unusedVariables false
set_option linter.unusedSimpArgs false

/-! ### nat_Sub: function 33 -/
def nat_Sub.l0 : Nat → List Int → List Int → Int → List Int → Int → Int → Option (List Int × Bool)
  | 0, _, _, _, _, _, _ => none
  | k + 1, x1, x6, x7, x18, x19, x20 => if x20 < x19 then (if 0 ≤ x20 then (if x20 < (x18.length : Int) then (if x20 < (x1.length : Int) then ((bits_Sub32.f (rd x18 x20) (rd x1 x20) x7).bind fun bt442 => (if x6.length < 35184372088832 then (nat_Sub.l0 k x1 (x6 ++ [bt442.1]) bt442.2 x18 x19 (wrap64 (x20 + 1))) else (none))) else ((bits_Sub32.f (rd x18 x20) 0 x7).bind fun bt447 => (if x6.length < 35184372088832 then (nat_Sub.l0 k x1 (x6 ++ [bt447.1]) bt447.2 x18 x19 (wrap64 (x20 + 1))) else (none)))) else (none)) else (none)) else ((nat_plain.f k x6).bind fun t452 => (some (t452, true)))
def nat_Sub.f (k : Nat) (l0 : List Int) (l1 : List Int) : Option (List Int × Bool) := (nat_Cmp.f k l0 l1).bind fun t436 => (if t436 < 0 then (some (([] : List Int), false)) else (if 0 ≤ (l0.length : Int) then (if ((l0.length : Int) : Int).toNat ≤ 70368744177664 then (nat_Sub.l0 k l1 (List.replicate 0 0) 0 l0 (l0.length : Int) 0) else (none)) else (none)))
theorem nat_Sub.mono_l : ∀ k, (∀ y0 y1 y2 y3 y4 y5, LeO (nat_Sub.l0 k y0 y1 y2 y3 y4 y5) (nat_Sub.l0 (k + 1) y0 y1 y2 y3 y4 y5))
  | 0 => fun _ _ _ _ _ _ r h => by simp [nat_Sub.l0] at h
  | k + 1 => by
    have ih0 := nat_Sub.mono_l k
    · intro y0 y1 y2 y3 y4 y5
      unfold nat_Sub.l0
      repeat' first
      | (with_reducible exact ih0 _ _ _ _ _ _)
      | (with_reducible exact nat_Cmp.mono _ _ _)
      | (with_reducible exact nat_plain.mono _ _)
      | (with_reducible exact LeO.refl _)
      | (with_reducible exact LeO.none _)
      | (with_reducible refine LeO.ite ?_ ?_)
      | (with_reducible refine LeO.bind ?_ (fun _ => ?_))
      | exact ih0 _ _ _ _ _ _
      | exact nat_Cmp.mono _ _ _
      | exact nat_plain.mono _ _
      | exact LeO.none _
      | refine LeO.ite ?_ ?_
      | refine LeO.bind ?_ (fun _ => ?_)
theorem nat_Sub.mono : ∀ a0 a1 k, LeO (nat_Sub.f k a0 a1) (nat_Sub.f (k + 1) a0 a1) := by
  intro a0 a1 k
  have ih0 := nat_Sub.mono_l k
  unfold nat_Sub.f
  repeat' first
      | (with_reducible exact ih0 _ _ _ _ _ _)
      | (with_reducible exact nat_Cmp.mono _ _ _)
      | (with_reducible exact nat_plain.mono _ _)
      | (with_reducible exact LeO.refl _)
      | (with_reducible exact LeO.none _)
      | (with_reducible refine LeO.ite ?_ ?_)
      | (with_reducible refine LeO.bind ?_ (fun _ => ?_))
      | exact ih0 _ _ _ _ _ _
      | exact nat_Cmp.mono _ _ _
      | exact nat_plain.mono _ _
      | exact LeO.none _
      | refine LeO.ite ?_ ?_
      | refine LeO.bind ?_ (fun _ => ?_)
set_option maxHeartbeats 8000000 in
set_option maxRecDepth 100000 in
theorem nat_Sub.calls (k : Nat) (A0 : Option Addr) (c0 : Nat) (l0 : List Int) (A1 : Option Addr) (c1 : Nat) (l1 : List Int) (r1 : List Int) (r2 : Bool) (w : World) (hr0 : Kd.C (Kd.int .u32) w A0 l0.length l0) (hc0 : l0.length ≤ c0) (hr1 : Kd.C (Kd.int .u32) w A1 l1.length l1) (hc1 : l1.length ≤ c1) (h : nat_Sub.f k l0 l1 = some (r1, r2)) :
    Calls Try.prog 33 #[.slice A0 l0.length c0, .slice A1 l1.length c1] w fun e w' => ∃ v0_ : Value, e = .returned (.tuple #[v0_, .bool r2]) ∧ Kd.V (Kd.int .u32) 31 w' w.heap.size (fun k_ => (w.heap.size ≤ k_)) v0_ r1 ∧ Below w.heap.size w w' := by
  have HR0 := zm hr0
  have HC0 := zm hc0
  clear hr0 hc0
  have HR1 := zm hr1
  have HC1 := zm hc1
  clear hr1 hc1
  have HB := zm (Below.refl w.heap.size w)
  have H : ((nat_Cmp.f k l0 l1).bind fun t436 => (if t436 < 0 then (some (([] : List Int), false)) else (if 0 ≤ (l0.length : Int) then (if ((l0.length : Int) : Int).toNat ≤ 70368744177664 then (nat_Sub.l0 k l1 (List.replicate 0 0) 0 l0 (l0.length : Int) 0) else (none)) else (none)))) = some (r1, r2) := h
  clear h
  replace H := Option.bind_eq_some_iff.mp H
  obtain ⟨t436, A30, H⟩ := H
  replace H : (if t436 < 0 then (some (([] : List Int), false)) else (if 0 ≤ (l0.length : Int) then (if ((l0.length : Int) : Int).toNat ≤ 70368744177664 then (nat_Sub.l0 k l1 (List.replicate 0 0) 0 l0 (l0.length : Int) 0) else (none)) else (none))) = some (r1, r2) := H
  have A3 := zm A30
  clear A30
  by_cases c4 : t436 < 0
  · rw [if_pos c4] at H
    have c4b0 : decide (t436 < 0) = true := decide_eq_true c4
    clear c4
    simp only [Option.some.injEq, Prod.mk.injEq] at H
    obtain ⟨rfl, rfl⟩ := H
    go_enter Try.func33, Try.ntmps33
    go_wp2_with (first | ((with_reducible refine gate_callee (f := 28) rfl ?_); refine goesL_ (some 13) rfl rfl Try.func28 (by kernel_rfl) rfl #[.slice A0 l0.length c0, .slice A1 l1.length c1] rfl (by (try simp only [zl1, zl2, zl3]); first | done | rfl | (simp only [List.length_drop, List.length_take]; rfl)) ?_; (with_reducible refine (nat_Cmp.calls k _ _ l0 _ _ l1 t436 _ ?side1 ?side2 ?side3 ?side4 A3.out).mono ?_); (case side1 => repeat (first | exact HR0.out | (with_reducible refine zc1 ?_ _) | (with_reducible refine zc2 ?_ _) | (with_reducible refine zc3 ?_))); (case side2 => exact HC0.out); (case side3 => repeat (first | exact HR1.out | (with_reducible refine zc1 ?_ _) | (with_reducible refine zc2 ?_ _) | (with_reducible refine zc3 ?_))); (case side4 => exact HC1.out); rintro e w' ⟨rfl, ⟨nd, rfl⟩⟩; refine ⟨_, rfl, ?_⟩))
    go_ret2
    exact ⟨_, by first | rfl | (simp [errW_none, errW_some] <;> rfl) | (simp [*, errW_none, errW_some] <;> rfl), (Kd.V_nil _ _ _ _ _), by repeat (first | (with_reducible first | exact HB.out | apply zb1 | apply zb2 | apply zb3) | exact HB.out)⟩
  · rw [if_neg c4] at H
    have c4b0 : decide (t436 < 0) = false := decide_eq_false c4
    clear c4
    by_cases c5 : 0 ≤ (l0.length : Int)
    · rw [if_pos c5] at H
      have c5b0 := eq_true c5
      have c5b1 : decide (0 ≤ (l0.length : Int)) = true := decide_eq_true c5
      clear c5
      by_cases c6 : ((l0.length : Int) : Int).toNat ≤ 70368744177664
      · rw [if_pos c6] at H
        have c6b0 := eq_true c6
        have c6b1 : decide (((l0.length : Int) : Int).toNat ≤ 70368744177664) = true := decide_eq_true c6
        clear c6
        obtain ⟨y437, hy437⟩ : ∃ y_ : List Int, y_ = (List.replicate 0 0) := ⟨_, rfl⟩
        replace H : (nat_Sub.l0 k l1 y437 0 l0 (l0.length : Int) 0) = some (r1, r2) := by first | (rw [hy437]; with_reducible exact H) | (have H2_ := (Option.bind_some _ _).symm.trans H; rw [hy437]; with_reducible exact H2_) | (have H2_ := (Option.bind_some _ _).symm.trans H; with_reducible exact H2_) | with_reducible exact H | (rw [hy437]; exact H) | exact H
        have Ny437 := zm hy437
        clear hy437
        have H' := zm H
        clear H
        go_enter Try.func33, Try.ntmps33
        go_wp2_with (first | ((with_reducible refine gate_callee (f := 28) rfl ?_); refine goesL_ (some 13) rfl rfl Try.func28 (by kernel_rfl) rfl #[.slice A0 l0.length c0, .slice A1 l1.length c1] rfl (by (try simp only [zl1, zl2, zl3]); first | done | rfl | (simp only [List.length_drop, List.length_take]; rfl)) ?_; (with_reducible refine (nat_Cmp.calls k _ _ l0 _ _ l1 t436 _ ?side1 ?side2 ?side3 ?side4 A3.out).mono ?_); (case side1 => repeat (first | exact HR0.out | (with_reducible refine zc1 ?_ _) | (with_reducible refine zc2 ?_ _) | (with_reducible refine zc3 ?_))); (case side2 => exact HC0.out); (case side3 => repeat (first | exact HR1.out | (with_reducible refine zc1 ?_ _) | (with_reducible refine zc2 ?_ _) | (with_reducible refine zc3 ?_))); (case side4 => exact HC1.out); rintro e w' ⟨rfl, ⟨nd, rfl⟩⟩; refine ⟨_, rfl, ?_⟩) | ((with_reducible refine gate_dst (N := 17) rfl ?_); refine R_make0K (Kd.int .u32) _ 31 rfl (N := 17) rfl 23 _ _ rfl (l0.length : Int) rfl rfl Try.underlying23 (.int .u32 0) 4 info31 rfl (by decide) (by omega) 0 (ok := fun _ => True) (okp := fun _ => True) rfl (fun _ hk => hk) trivial (of_decide_eq_true (by first | (with_reducible assumption) | assumption)) (Nat.le_trans (Nat.mul_le_mul_right _ (of_decide_eq_true (by first | (with_reducible assumption) | assumption) : (l0.length : Int).toNat ≤ 70368744177664)) (by omega)) (Below.refl _ _) (Nat.le_refl _) ?_; intro v438 w7 ho8 hb hg_ hnew_; clear hg_ hnew_; (first | rw [← Ny437.out] at ho8 | (simp only [Int.reduceToNat] at ho8; rw [← Ny437.out] at ho8)); have n0_ := zm (Kd.R_lower (Kd.R_newM (M := fun k_ => (w.heap.size ≤ k_)) ho8 (below_size (by repeat (first | (with_reducible first | exact HB.out | apply zb1 | apply zb2 | apply zb3) | exact HB.out))) (fun k_ h_ => h_)) (below_size (by repeat (first | (with_reducible first | exact HB.out | apply zb1 | apply zb2 | apply zb3) | exact HB.out)))); have n1_ := zm (below_step (by repeat (first | (with_reducible first | exact HB.out | apply zb1 | apply zb2 | apply zb3) | exact HB.out)) hb); clear HB; have HO439 := n0_; have HB := n1_; clear n0_ n1_; clear hb ho8))
        go_loopg [6, 7, 20] k (fun kq v6 v7 v20 w' => ∃ (x6_1 : List Int) (x7_1 : Int) (x20_1 : Int), v7 = .int .u32 x7_1 ∧ v20 = .int .i64 x20_1 ∧ Aside0 (nat_Sub.l0 kq l1 x6_1 x7_1 l0 (l0.length : Int) x20_1 = some (r1, r2)) ∧ Aside0 (kq ≤ k) ∧ Aside0 (Kd.R (Kd.int .u32) 31 w' w.heap.size (fun k_ => (w.heap.size ≤ k_)) v6 x6_1) ∧ Aside0 (Below w.heap.size w w'))
        case atStart => exact ⟨(y437), (0), (0), (by first | rfl | (simp; done) | (simp [*]; done)), (by first | rfl | (simp; done) | (simp [*]; done)), H', ⟨Nat.le_refl _⟩, ⟨by (with_reducible repeat (first | apply zr1 | apply zr2 | apply zr3)); exact Kd.R_mono HO439.out (fun _ hk => hk.1)⟩, ⟨by repeat (first | (with_reducible first | exact HB.out | apply zb1 | apply zb2 | apply zb3) | exact HB.out)⟩⟩
        case round =>
          clear H'
          try clear c1
          try clear c2
          try clear p2
          try clear c3
          try clear c4
          try clear c4b0
          try clear c5
          try clear c5b0
          try clear c5b1
          try clear c6
          try clear c6b0
          try clear c6b1
          obtain ⟨x6_1, x7_1, x20_1, rfl, rfl, HA, HK1, HO_6, HB⟩ := hrel
          cases gk with
          | zero => exact absurd HA.out (by simp [nat_Sub.l0])
          | succ k1 =>
            have H := HA.out
            clear HA
            simp only [nat_Sub.l0] at H
            by_cases c9 : x20_1 < (l0.length : Int)
            · rw [if_pos c9] at H
              have c9b0 : decide (x20_1 < (l0.length : Int)) = true := decide_eq_true c9
              clear c9
              by_cases c10 : 0 ≤ x20_1
              · rw [if_pos c10] at H
                have c10b0 : decide (0 ≤ x20_1) = true := decide_eq_true c10
                clear c10
                by_cases c11 : x20_1 < (l0.length : Int)
                · rw [if_pos c11] at H
                  have c11b0 : decide (x20_1 < (l0.length : Int)) = true := decide_eq_true c11
                  clear c11
                  by_cases c12 : x20_1 < (l1.length : Int)
                  · rw [if_pos c12] at H
                    have c12b0 : decide (x20_1 < (l1.length : Int)) = true := decide_eq_true c12
                    clear c12
                    replace H := Option.bind_eq_some_iff.mp H
                    obtain ⟨⟨t442, t443⟩, A130, H⟩ := H
                    replace H : (if x6_1.length < 35184372088832 then (nat_Sub.l0 k1 l1 (x6_1 ++ [t442]) t443 l0 (l0.length : Int) (wrap64 (x20_1 + 1))) else (none)) = some (r1, r2) := H
                    have A13 := zm A130
                    clear A130
                    by_cases c14 : x6_1.length < 35184372088832
                    · rw [if_pos c14] at H
                      have LMc14 := zm c14
                      clear c14
                      obtain ⟨y444, hy444⟩ : ∃ y_ : List Int, y_ = (x6_1 ++ [t442]) := ⟨_, rfl⟩
                      replace H : (nat_Sub.l0 k1 l1 y444 t443 l0 (l0.length : Int) (wrap64 (x20_1 + 1))) = some (r1, r2) := by first | (rw [hy444]; with_reducible exact H) | (have H2_ := (Option.bind_some _ _).symm.trans H; rw [hy444]; with_reducible exact H2_) | (have H2_ := (Option.bind_some _ _).symm.trans H; with_reducible exact H2_) | with_reducible exact H | (rw [hy444]; exact H) | exact H
                      have Ny444 := zm hy444
                      clear hy444
                      have H' := zm H
                      clear H
                      have p440 : 0 ≤ (x20_1 : Int) := of_decide_eq_true (by first | (with_reducible assumption) | assumption)
                      have q440 : x20_1 < (l0.length : Int) := of_decide_eq_true (by first | (with_reducible assumption) | assumption)
                      obtain ⟨ad440, e440, hx440_0⟩ := Kd.at_int HR0.out x20_1 p440 q440
                      cases e440
                      replace hx440_0 := (HB.out.cell (World.block_lt_of_cell? w _ hx440_0)).trans hx440_0
                      replace p440 := eq_true p440
                      replace q440 := eq_true q440
                      have p441 : 0 ≤ (x20_1 : Int) := of_decide_eq_true (by first | (with_reducible assumption) | assumption)
                      have q441 : x20_1 < (l1.length : Int) := of_decide_eq_true (by first | (with_reducible assumption) | assumption)
                      obtain ⟨ad441, e441, hx441_0⟩ := Kd.at_int HR1.out x20_1 p441 q441
                      cases e441
                      replace hx441_0 := (HB.out.cell (World.block_lt_of_cell? w _ hx441_0)).trans hx441_0
                      replace p441 := eq_true p441
                      replace q441 := eq_true q441
                      go_wp2_with (first | ((with_reducible refine gate_callee (f := 56) rfl ?_); refine goesL_ (some 37) rfl rfl Try.func56 (by kernel_rfl) rfl #[.int .u32 (rd l0 x20_1), .int .u32 (rd l1 x20_1), .int .u32 x7_1] rfl (by (try simp only [zl1, zl2, zl3]); first | done | rfl | (simp only [List.length_drop, List.length_take]; rfl)) ?_; (with_reducible refine (bits_Sub32.calls (rd l0 x20_1) (rd l1 x20_1) x7_1 t442 t443 _ A13.out).mono ?_); rintro e w' ⟨rfl, ⟨nd, rfl⟩⟩; refine ⟨_, rfl, ?_⟩) | ((with_reducible refine gate_builtin (b := .append) (xs := #[.tmp 40, .tmp 42]) rfl ?_); at_builtin; refine Kd.R_append (Kd.int .u32) (w0 := w) w.heap.size rfl (.tmp 40) (.tmp 42) 23 31 (.int .u32 0) 4 rfl Try.underlying23 info31 rfl (by decide) (by omega) u6 x6_1 t442 [.int .u32 t442] (fun k_ => (w.heap.size ≤ k_)) (fun _ => False) rfl rfl ?aP (fun _ hk => hk.elim) ?aF ?aO ?aB ?aS ?aL ?_; (case aP => exact rfl); (case aB => exact (by repeat (first | (with_reducible first | exact HB.out | apply zb1 | apply zb2 | apply zb3) | exact HB.out))); (case aF => exact (fun k_ hk => (Nat.le_trans (below_size (by repeat (first | (with_reducible first | exact HB.out | apply zb1 | apply zb2 | apply zb3) | exact HB.out))) hk))); (case aO => exact (by (with_reducible repeat (first | apply zr1 | apply zr2 | apply zr3)); exact HO_6.out)); (case aS => exact (below_size (by repeat (first | (with_reducible first | exact HB.out | apply zb1 | apply zb2 | apply zb3) | exact HB.out)))); (case aL => have := LMc14.out; omega); intro v445 w15 ho hb hg hat; rw [← Ny444.out] at ho; have n0_ := zm (hb); have n1_ := zm (ho); clear HB; clear HO_6; have HB := n0_; have HO446 := n1_; clear n0_ n1_; clear ho hb hg hat))
                      go_roundg k1
                      case measure => have := HK1.out; omega
                      case rel => exact ⟨(y444), (t443), (wrap64 (x20_1 + 1)), (by first | rfl | (simp; done) | (simp [*]; done)), (by first | rfl | (simp; done) | (simp [*]; done)), H', ⟨by have := HK1.out; omega⟩, ⟨by (with_reducible repeat (first | apply zr1 | apply zr2 | apply zr3)); (first | exact HO446.out | exact Kd.R_mono HO446.out (fun k_ h_ => h_.1))⟩, ⟨by repeat (first | (with_reducible first | exact HB.out | apply zb1 | apply zb2 | apply zb3) | exact HB.out)⟩⟩
                    · rw [if_neg c14] at H
                      exact absurd H (by simp)
                  · rw [if_neg c12] at H
                    have c12b0 : decide (x20_1 < (l1.length : Int)) = false := decide_eq_false c12
                    clear c12
                    replace H := Option.bind_eq_some_iff.mp H
                    obtain ⟨⟨t447, t448⟩, A160, H⟩ := H
                    replace H : (if x6_1.length < 35184372088832 then (nat_Sub.l0 k1 l1 (x6_1 ++ [t447]) t448 l0 (l0.length : Int) (wrap64 (x20_1 + 1))) else (none)) = some (r1, r2) := H
                    have A16 := zm A160
                    clear A160
                    by_cases c17 : x6_1.length < 35184372088832
                    · rw [if_pos c17] at H
                      have LMc17 := zm c17
                      clear c17
                      obtain ⟨y449, hy449⟩ : ∃ y_ : List Int, y_ = (x6_1 ++ [t447]) := ⟨_, rfl⟩
                      replace H : (nat_Sub.l0 k1 l1 y449 t448 l0 (l0.length : Int) (wrap64 (x20_1 + 1))) = some (r1, r2) := by first | (rw [hy449]; with_reducible exact H) | (have H2_ := (Option.bind_some _ _).symm.trans H; rw [hy449]; with_reducible exact H2_) | (have H2_ := (Option.bind_some _ _).symm.trans H; with_reducible exact H2_) | with_reducible exact H | (rw [hy449]; exact H) | exact H
                      have Ny449 := zm hy449
                      clear hy449
                      have H' := zm H
                      clear H
                      have p440 : 0 ≤ (x20_1 : Int) := of_decide_eq_true (by first | (with_reducible assumption) | assumption)
                      have q440 : x20_1 < (l0.length : Int) := of_decide_eq_true (by first | (with_reducible assumption) | assumption)
                      obtain ⟨ad440, e440, hx440_0⟩ := Kd.at_int HR0.out x20_1 p440 q440
                      cases e440
                      replace hx440_0 := (HB.out.cell (World.block_lt_of_cell? w _ hx440_0)).trans hx440_0
                      replace p440 := eq_true p440
                      replace q440 := eq_true q440
                      go_wp2_with (first | ((with_reducible refine gate_callee (f := 56) rfl ?_); refine goesL_ (some 37) rfl rfl Try.func56 (by kernel_rfl) rfl #[.int .u32 (rd l0 x20_1), .int .u32 0, .int .u32 x7_1] rfl (by (try simp only [zl1, zl2, zl3]); first | done | rfl | (simp only [List.length_drop, List.length_take]; rfl)) ?_; (with_reducible refine (bits_Sub32.calls (rd l0 x20_1) 0 x7_1 t447 t448 _ A16.out).mono ?_); rintro e w' ⟨rfl, ⟨nd, rfl⟩⟩; refine ⟨_, rfl, ?_⟩) | ((with_reducible refine gate_builtin (b := .append) (xs := #[.tmp 40, .tmp 42]) rfl ?_); at_builtin; refine Kd.R_append (Kd.int .u32) (w0 := w) w.heap.size rfl (.tmp 40) (.tmp 42) 23 31 (.int .u32 0) 4 rfl Try.underlying23 info31 rfl (by decide) (by omega) u6 x6_1 t447 [.int .u32 t447] (fun k_ => (w.heap.size ≤ k_)) (fun _ => False) rfl rfl ?aP (fun _ hk => hk.elim) ?aF ?aO ?aB ?aS ?aL ?_; (case aP => exact rfl); (case aB => exact (by repeat (first | (with_reducible first | exact HB.out | apply zb1 | apply zb2 | apply zb3) | exact HB.out))); (case aF => exact (fun k_ hk => (Nat.le_trans (below_size (by repeat (first | (with_reducible first | exact HB.out | apply zb1 | apply zb2 | apply zb3) | exact HB.out))) hk))); (case aO => exact (by (with_reducible repeat (first | apply zr1 | apply zr2 | apply zr3)); exact HO_6.out)); (case aS => exact (below_size (by repeat (first | (with_reducible first | exact HB.out | apply zb1 | apply zb2 | apply zb3) | exact HB.out)))); (case aL => have := LMc17.out; omega); intro v450 w18 ho hb hg hat; rw [← Ny449.out] at ho; have n0_ := zm (hb); have n1_ := zm (ho); clear HB; clear HO_6; have HB := n0_; have HO451 := n1_; clear n0_ n1_; clear ho hb hg hat))
                      go_roundg k1
                      case measure => have := HK1.out; omega
                      case rel => exact ⟨(y449), (t448), (wrap64 (x20_1 + 1)), (by first | rfl | (simp; done) | (simp [*]; done)), (by first | rfl | (simp; done) | (simp [*]; done)), H', ⟨by have := HK1.out; omega⟩, ⟨by (with_reducible repeat (first | apply zr1 | apply zr2 | apply zr3)); (first | exact HO451.out | exact Kd.R_mono HO451.out (fun k_ h_ => h_.1))⟩, ⟨by repeat (first | (with_reducible first | exact HB.out | apply zb1 | apply zb2 | apply zb3) | exact HB.out)⟩⟩
                    · rw [if_neg c17] at H
                      exact absurd H (by simp)
                · rw [if_neg c11] at H
                  exact absurd H (by simp)
              · rw [if_neg c10] at H
                exact absurd H (by simp)
            · rw [if_neg c9] at H
              have c9b0 : decide (x20_1 < (l0.length : Int)) = false := decide_eq_false c9
              clear c9
              replace H := Option.bind_eq_some_iff.mp H
              obtain ⟨t452, A190, H⟩ := H
              replace H : (some (t452, true)) = some (r1, r2) := H
              have A19 := zm A190
              clear A190
              simp only [Option.some.injEq, Prod.mk.injEq] at H
              obtain ⟨rfl, rfl⟩ := H
              obtain ⟨Ao20, co20, eo20⟩ := Kd.R_slice HO_6.out
              subst eo20
              go_wp2_with (first | ((with_reducible refine gate_callee (f := 45) rfl ?_); refine goesL_ (some 46) rfl rfl Try.func45 (by kernel_rfl) rfl #[.slice Ao20 x6_1.length co20] rfl (by (try simp only [zl1, zl2, zl3]); first | done | rfl | (simp only [List.length_drop, List.length_take]; rfl)) ?_; (with_reducible refine (nat_plain.calls k1 (fun k_ => some k_ = (.slice Ao20 x6_1.length co20 : Value).ownBlock) _ _ x6_1 t452 _ ?side1 A19.out).mono ?_); (case side1 => exact Kd.R_V (Kd.R_tight rfl (HO_6.out))); rintro e w21 ⟨v453, rfl, ho0, hb⟩; refine ⟨_, rfl, ?_⟩; have n0_ := zm (Kd.R_below (by (with_reducible repeat (first | apply zr1 | apply zr2 | apply zr3)); exact HO_6.out) hb); have n1_ := zm (Kd.V_lower (Kd.V_mono (ok' := fun k_ => (w.heap.size ≤ k_)) ho0 (fun k_ hk_ => Or.elim hk_ (fun hs_ => ((HO_6.out).1 k_ hs_.symm)) (fun hn_ => (Nat.le_trans (below_size (by repeat (first | (with_reducible first | exact HB.out | apply zb1 | apply zb2 | apply zb3) | exact HB.out))) hn_)))) (below_size (by repeat (first | (with_reducible first | exact HB.out | apply zb1 | apply zb2 | apply zb3) | exact HB.out)))); have n2_ := zm (below_step (by repeat (first | (with_reducible first | exact HB.out | apply zb1 | apply zb2 | apply zb3) | exact HB.out)) hb); clear HO_6; clear HB; have HO_6 := n0_; have HO454 := n1_; have HB := n2_; clear n0_ n1_ n2_; (try clear hb); (try clear hb2); (try clear hk); (try clear hi); (try clear ho0)))
              go_ret2
              exact ⟨_, by first | rfl | (simp [errW_none, errW_some] <;> rfl) | (simp [*, errW_none, errW_some] <;> rfl), by (with_reducible repeat (first | apply zv1 | apply zv2 | apply zv3)); exact HO454.out, by repeat (first | (with_reducible first | exact HB.out | apply zb1 | apply zb2 | apply zb3) | exact HB.out)⟩
      · rw [if_neg c6] at H
        exact absurd H (by simp)
    · rw [if_neg c5] at H
      exact absurd H (by simp)

/-! ### mod_Sub: function 18 -/
def mod_Sub.f (k : Nat) (l0 : List Int) (l1 : List Int) (l2 : List Int) : Option (List Int × Bool) := (mod_rest.f k l0 l2).bind fun bt455 => (if bt455.2 = true then ((mod_rest.f k l1 l2).bind fun bt459 => ((nat_Sub.f k bt455.1 bt459.1).bind fun bt463 => (if bt463.2 = true then (some (bt463.1, true)) else ((nat_Add.f k bt455.1 l2).bind fun t467 => ((nat_Sub.f k t467 bt459.1).bind fun bt470 => (some (bt470.1, bt470.2))))))) else (some (([] : List Int), false)))
theorem mod_Sub.mono : ∀ a0 a1 a2 k, LeO (mod_Sub.f k a0 a1 a2) (mod_Sub.f (k + 1) a0 a1 a2) := by
  intro a0 a1 a2 k
  unfold mod_Sub.f
  repeat' first
      | (with_reducible exact mod_rest.mono _ _ _)
      | (with_reducible exact nat_Add.mono _ _ _)
      | (with_reducible exact nat_Sub.mono _ _ _)
      | (with_reducible exact LeO.refl _)
      | (with_reducible exact LeO.none _)
      | (with_reducible refine LeO.ite ?_ ?_)
      | (with_reducible refine LeO.bind ?_ (fun _ => ?_))
      | exact mod_rest.mono _ _ _
      | exact nat_Add.mono _ _ _
      | exact nat_Sub.mono _ _ _
      | exact LeO.none _
      | refine LeO.ite ?_ ?_
      | refine LeO.bind ?_ (fun _ => ?_)
set_option maxHeartbeats 8000000 in
set_option maxRecDepth 100000 in
theorem mod_Sub.calls (k : Nat) (A0 : Option Addr) (c0 : Nat) (l0 : List Int) (A1 : Option Addr) (c1 : Nat) (l1 : List Int) (A2 : Option Addr) (c2 : Nat) (l2 : List Int) (r1 : List Int) (r2 : Bool) (w : World) (hr0 : Kd.C (Kd.int .u32) w A0 l0.length l0) (hc0 : l0.length ≤ c0) (hr1 : Kd.C (Kd.int .u32) w A1 l1.length l1) (hc1 : l1.length ≤ c1) (hr2 : Kd.C (Kd.int .u32) w A2 l2.length l2) (hc2 : l2.length ≤ c2) (h : mod_Sub.f k l0 l1 l2 = some (r1, r2)) :
    Calls Try.prog 18 #[.slice A0 l0.length c0, .slice A1 l1.length c1, .slice A2 l2.length c2] w fun e w' => ∃ v0_ : Value, e = .returned (.tuple #[v0_, .bool r2]) ∧ Kd.V (Kd.int .u32) 31 w' w.heap.size (fun k_ => (w.heap.size ≤ k_)) v0_ r1 ∧ Below w.heap.size w w' := by
  have HR0 := zm hr0
  have HC0 := zm hc0
  clear hr0 hc0
  have HR1 := zm hr1
  have HC1 := zm hc1
  clear hr1 hc1
  have HR2 := zm hr2
  have HC2 := zm hc2
  clear hr2 hc2
  have HB := zm (Below.refl w.heap.size w)
  have H : ((mod_rest.f k l0 l2).bind fun bt455 => (if bt455.2 = true then ((mod_rest.f k l1 l2).bind fun bt459 => ((nat_Sub.f k bt455.1 bt459.1).bind fun bt463 => (if bt463.2 = true then (some (bt463.1, true)) else ((nat_Add.f k bt455.1 l2).bind fun t467 => ((nat_Sub.f k t467 bt459.1).bind fun bt470 => (some (bt470.1, bt470.2))))))) else (some (([] : List Int), false)))) = some (r1, r2) := h
  clear h
  replace H := Option.bind_eq_some_iff.mp H
  obtain ⟨⟨t455, t458⟩, A40, H⟩ := H
  replace H : (if t458 = true then ((mod_rest.f k l1 l2).bind fun bt459 => ((nat_Sub.f k t455 bt459.1).bind fun bt463 => (if bt463.2 = true then (some (bt463.1, true)) else ((nat_Add.f k t455 l2).bind fun t467 => ((nat_Sub.f k t467 bt459.1).bind fun bt470 => (some (bt470.1, bt470.2))))))) else (some (([] : List Int), false))) = some (r1, r2) := H
  have A4 := zm A40
  clear A40
  by_cases c5 : t458 = true
  · subst c5
    have H1 : ((mod_rest.f k l1 l2).bind fun bt459 => ((nat_Sub.f k t455 bt459.1).bind fun bt463 => (if bt463.2 = true then (some (bt463.1, true)) else ((nat_Add.f k t455 l2).bind fun t467 => ((nat_Sub.f k t467 bt459.1).bind fun bt470 => (some (bt470.1, bt470.2))))))) = some (r1, r2) := by rw [if_pos rfl] at H; exact H
    clear H
    have H := H1
    clear H1
    replace H := Option.bind_eq_some_iff.mp H
    obtain ⟨⟨t459, t462⟩, A60, H⟩ := H
    replace H : ((nat_Sub.f k t455 t459).bind fun bt463 => (if bt463.2 = true then (some (bt463.1, true)) else ((nat_Add.f k t455 l2).bind fun t467 => ((nat_Sub.f k t467 t459).bind fun bt470 => (some (bt470.1, bt470.2)))))) = some (r1, r2) := H
    have A6 := zm A60
    clear A60
    replace H := Option.bind_eq_some_iff.mp H
    obtain ⟨⟨t463, t466⟩, A70, H⟩ := H
    replace H : (if t466 = true then (some (t463, true)) else ((nat_Add.f k t455 l2).bind fun t467 => ((nat_Sub.f k t467 t459).bind fun bt470 => (some (bt470.1, bt470.2))))) = some (r1, r2) := H
    have A7 := zm A70
    clear A70
    by_cases c8 : t466 = true
    · subst c8
      have H1 : (some (t463, true)) = some (r1, r2) := by rw [if_pos rfl] at H; exact H
      clear H
      have H := H1
      clear H1
      simp only [Option.some.injEq, Prod.mk.injEq] at H
      obtain ⟨rfl, rfl⟩ := H
      go_enter Try.func18, Try.ntmps18
      go_wp2_with (first | ((with_reducible refine gate_callee (f := 25) rfl ?_); refine goesL_ (some 17) rfl rfl Try.func25 (by kernel_rfl) rfl #[.slice A0 l0.length c0, .slice A2 l2.length c2] rfl (by (try simp only [zl1, zl2, zl3]); first | done | rfl | (simp only [List.length_drop, List.length_take]; rfl)) ?_; (with_reducible refine (mod_rest.calls k _ _ l0 _ _ l2 t455 true _ ?side1 ?side2 ?side3 ?side4 A4.out).mono ?_); (case side1 => repeat (first | exact HR0.out | (with_reducible refine zc1 ?_ _) | (with_reducible refine zc2 ?_ _) | (with_reducible refine zc3 ?_))); (case side2 => exact HC0.out); (case side3 => repeat (first | exact HR2.out | (with_reducible refine zc1 ?_ _) | (with_reducible refine zc2 ?_ _) | (with_reducible refine zc3 ?_))); (case side4 => exact HC2.out); rintro e w9 ⟨v456, rfl, ho0, hb⟩; refine ⟨_, rfl, ?_⟩; have n0_ := zm (Kd.V_lower (Kd.V_mono (ok' := fun k_ => (w.heap.size ≤ k_)) ho0 (fun k_ hk_ => (Nat.le_trans (below_size (by repeat (first | (with_reducible first | exact HB.out | apply zb1 | apply zb2 | apply zb3) | exact HB.out))) hk_))) (below_size (by repeat (first | (with_reducible first | exact HB.out | apply zb1 | apply zb2 | apply zb3) | exact HB.out)))); have n1_ := zm (below_step (by repeat (first | (with_reducible first | exact HB.out | apply zb1 | apply zb2 | apply zb3) | exact HB.out)) hb); clear HB; have HO457 := n0_; have HB := n1_; clear n0_ n1_; (try clear hb); (try clear hb2); (try clear hk); (try clear hi); (try clear ho0)) | ((with_reducible refine gate_callee (f := 25) rfl ?_); refine goesL_ (some 25) rfl rfl Try.func25 (by kernel_rfl) rfl #[.slice A1 l1.length c1, .slice A2 l2.length c2] rfl (by (try simp only [zl1, zl2, zl3]); first | done | rfl | (simp only [List.length_drop, List.length_take]; rfl)) ?_; (with_reducible refine (mod_rest.calls k _ _ l1 _ _ l2 t459 t462 _ ?side1 ?side2 ?side3 ?side4 A6.out).mono ?_); (case side1 => repeat (first | exact (Kd.C_below HR1.out HB.out) | (with_reducible refine zc1 ?_ _) | (with_reducible refine zc2 ?_ _) | (with_reducible refine zc3 ?_))); (case side2 => exact HC1.out); (case side3 => repeat (first | exact (Kd.C_below HR2.out HB.out) | (with_reducible refine zc1 ?_ _) | (with_reducible refine zc2 ?_ _) | (with_reducible refine zc3 ?_))); (case side4 => exact HC2.out); rintro e w10 ⟨v460, rfl, ho0, hb⟩; refine ⟨_, rfl, ?_⟩; have n0_ := zm (Kd.V_below (by (with_reducible repeat (first | apply zv1 | apply zv2 | apply zv3)); exact HO457.out) hb); have n1_ := zm (Kd.V_lower (Kd.V_mono (ok' := fun k_ => (w.heap.size ≤ k_)) ho0 (fun k_ hk_ => (Nat.le_trans (below_size (by repeat (first | (with_reducible first | exact HB.out | apply zb1 | apply zb2 | apply zb3) | exact HB.out))) hk_))) (below_size (by repeat (first | (with_reducible first | exact HB.out | apply zb1 | apply zb2 | apply zb3) | exact HB.out)))); have n2_ := zm (below_step (by repeat (first | (with_reducible first | exact HB.out | apply zb1 | apply zb2 | apply zb3) | exact HB.out)) hb); clear HO457; clear HB; have HO457 := n0_; have HO461 := n1_; have HB := n2_; clear n0_ n1_ n2_; (try clear hb); (try clear hb2); (try clear hk); (try clear hi); (try clear ho0); obtain ⟨Ao11, co11, eo11⟩ := Kd.V_slice HO457.out; subst eo11; obtain ⟨Ao12, co12, eo12⟩ := Kd.V_slice HO461.out; subst eo12) | ((with_reducible refine gate_callee (f := 33) rfl ?_); refine goesL_ (some 31) rfl rfl Try.func33 (by kernel_rfl) rfl #[.slice Ao11 t455.length co11, .slice Ao12 t459.length co12] rfl (by (try simp only [zl1, zl2, zl3]); first | done | rfl | (simp only [List.length_drop, List.length_take]; rfl)) ?_; (with_reducible refine (nat_Sub.calls k _ _ t455 _ _ t459 t463 true _ ?side1 ?side2 ?side3 ?side4 A7.out).mono ?_); (case side1 => repeat (first | exact (Kd.V_reads' HO457.out).2.2 | (with_reducible refine zc1 ?_ _) | (with_reducible refine zc2 ?_ _) | (with_reducible refine zc3 ?_))); (case side2 => exact (Kd.V_reads' HO457.out).2.1); (case side3 => repeat (first | exact (Kd.V_reads' HO461.out).2.2 | (with_reducible refine zc1 ?_ _) | (with_reducible refine zc2 ?_ _) | (with_reducible refine zc3 ?_))); (case side4 => exact (Kd.V_reads' HO461.out).2.1); rintro e w13 ⟨v464, rfl, ho0, hb⟩; refine ⟨_, rfl, ?_⟩; have n0_ := zm (Kd.V_below (by (with_reducible repeat (first | apply zv1 | apply zv2 | apply zv3)); exact HO457.out) hb); have n1_ := zm (Kd.V_below (by (with_reducible repeat (first | apply zv1 | apply zv2 | apply zv3)); exact HO461.out) hb); have n2_ := zm (Kd.V_lower (Kd.V_mono (ok' := fun k_ => (w.heap.size ≤ k_)) ho0 (fun k_ hk_ => (Nat.le_trans (below_size (by repeat (first | (with_reducible first | exact HB.out | apply zb1 | apply zb2 | apply zb3) | exact HB.out))) hk_))) (below_size (by repeat (first | (with_reducible first | exact HB.out | apply zb1 | apply zb2 | apply zb3) | exact HB.out)))); have n3_ := zm (below_step (by repeat (first | (with_reducible first | exact HB.out | apply zb1 | apply zb2 | apply zb3) | exact HB.out)) hb); clear HO457; clear HO461; clear HB; have HO457 := n0_; have HO461 := n1_; have HO465 := n2_; have HB := n3_; clear n0_ n1_ n2_ n3_; (try clear hb); (try clear hb2); (try clear hk); (try clear hi); (try clear ho0)))
      go_ret2
      exact ⟨_, by first | rfl | (simp [errW_none, errW_some] <;> rfl) | (simp [*, errW_none, errW_some] <;> rfl), by (with_reducible repeat (first | apply zv1 | apply zv2 | apply zv3)); exact HO465.out, by repeat (first | (with_reducible first | exact HB.out | apply zb1 | apply zb2 | apply zb3) | exact HB.out)⟩
    · replace c8 := Bool.eq_false_iff.mpr c8
      subst c8
      have H1 : ((nat_Add.f k t455 l2).bind fun t467 => ((nat_Sub.f k t467 t459).bind fun bt470 => (some (bt470.1, bt470.2)))) = some (r1, r2) := by rw [if_neg (show ¬ (false = true) by decide)] at H; exact H
      clear H
      have H := H1
      clear H1
      replace H := Option.bind_eq_some_iff.mp H
      obtain ⟨t467, A140, H⟩ := H
      replace H : ((nat_Sub.f k t467 t459).bind fun bt470 => (some (bt470.1, bt470.2))) = some (r1, r2) := H
      have A14 := zm A140
      clear A140
      replace H := Option.bind_eq_some_iff.mp H
      obtain ⟨⟨t470, t473⟩, A150, H⟩ := H
      replace H : (some (t470, t473)) = some (r1, r2) := H
      have A15 := zm A150
      clear A150
      simp only [Option.some.injEq, Prod.mk.injEq] at H
      obtain ⟨rfl, rfl⟩ := H
      go_enter Try.func18, Try.ntmps18
      go_wp2_with (first | ((with_reducible refine gate_callee (f := 25) rfl ?_); refine goesL_ (some 17) rfl rfl Try.func25 (by kernel_rfl) rfl #[.slice A0 l0.length c0, .slice A2 l2.length c2] rfl (by (try simp only [zl1, zl2, zl3]); first | done | rfl | (simp only [List.length_drop, List.length_take]; rfl)) ?_; (with_reducible refine (mod_rest.calls k _ _ l0 _ _ l2 t455 true _ ?side1 ?side2 ?side3 ?side4 A4.out).mono ?_); (case side1 => repeat (first | exact HR0.out | (with_reducible refine zc1 ?_ _) | (with_reducible refine zc2 ?_ _) | (with_reducible refine zc3 ?_))); (case side2 => exact HC0.out); (case side3 => repeat (first | exact HR2.out | (with_reducible refine zc1 ?_ _) | (with_reducible refine zc2 ?_ _) | (with_reducible refine zc3 ?_))); (case side4 => exact HC2.out); rintro e w16 ⟨v456, rfl, ho0, hb⟩; refine ⟨_, rfl, ?_⟩; have n0_ := zm (Kd.V_lower (Kd.V_mono (ok' := fun k_ => (w.heap.size ≤ k_)) ho0 (fun k_ hk_ => (Nat.le_trans (below_size (by repeat (first | (with_reducible first | exact HB.out | apply zb1 | apply zb2 | apply zb3) | exact HB.out))) hk_))) (below_size (by repeat (first | (with_reducible first | exact HB.out | apply zb1 | apply zb2 | apply zb3) | exact HB.out)))); have n1_ := zm (below_step (by repeat (first | (with_reducible first | exact HB.out | apply zb1 | apply zb2 | apply zb3) | exact HB.out)) hb); clear HB; have HO457 := n0_; have HB := n1_; clear n0_ n1_; (try clear hb); (try clear hb2); (try clear hk); (try clear hi); (try clear ho0)) | ((with_reducible refine gate_callee (f := 25) rfl ?_); refine goesL_ (some 25) rfl rfl Try.func25 (by kernel_rfl) rfl #[.slice A1 l1.length c1, .slice A2 l2.length c2] rfl (by (try simp only [zl1, zl2, zl3]); first | done | rfl | (simp only [List.length_drop, List.length_take]; rfl)) ?_; (with_reducible refine (mod_rest.calls k _ _ l1 _ _ l2 t459 t462 _ ?side1 ?side2 ?side3 ?side4 A6.out).mono ?_); (case side1 => repeat (first | exact (Kd.C_below HR1.out HB.out) | (with_reducible refine zc1 ?_ _) | (with_reducible refine zc2 ?_ _) | (with_reducible refine zc3 ?_))); (case side2 => exact HC1.out); (case side3 => repeat (first | exact (Kd.C_below HR2.out HB.out) | (with_reducible refine zc1 ?_ _) | (with_reducible refine zc2 ?_ _) | (with_reducible refine zc3 ?_))); (case side4 => exact HC2.out); rintro e w17 ⟨v460, rfl, ho0, hb⟩; refine ⟨_, rfl, ?_⟩; have n0_ := zm (Kd.V_below (by (with_reducible repeat (first | apply zv1 | apply zv2 | apply zv3)); exact HO457.out) hb); have n1_ := zm (Kd.V_lower (Kd.V_mono (ok' := fun k_ => (w.heap.size ≤ k_)) ho0 (fun k_ hk_ => (Nat.le_trans (below_size (by repeat (first | (with_reducible first | exact HB.out | apply zb1 | apply zb2 | apply zb3) | exact HB.out))) hk_))) (below_size (by repeat (first | (with_reducible first | exact HB.out | apply zb1 | apply zb2 | apply zb3) | exact HB.out)))); have n2_ := zm (below_step (by repeat (first | (with_reducible first | exact HB.out | apply zb1 | apply zb2 | apply zb3) | exact HB.out)) hb); clear HO457; clear HB; have HO457 := n0_; have HO461 := n1_; have HB := n2_; clear n0_ n1_ n2_; (try clear hb); (try clear hb2); (try clear hk); (try clear hi); (try clear ho0); obtain ⟨Ao18, co18, eo18⟩ := Kd.V_slice HO457.out; subst eo18; obtain ⟨Ao19, co19, eo19⟩ := Kd.V_slice HO461.out; subst eo19) | ((with_reducible refine gate_callee (f := 33) rfl ?_); refine goesL_ (some 31) rfl rfl Try.func33 (by kernel_rfl) rfl #[.slice Ao18 t455.length co18, .slice Ao19 t459.length co19] rfl (by (try simp only [zl1, zl2, zl3]); first | done | rfl | (simp only [List.length_drop, List.length_take]; rfl)) ?_; (with_reducible refine (nat_Sub.calls k _ _ t455 _ _ t459 t463 false _ ?side1 ?side2 ?side3 ?side4 A7.out).mono ?_); (case side1 => repeat (first | exact (Kd.V_reads' HO457.out).2.2 | (with_reducible refine zc1 ?_ _) | (with_reducible refine zc2 ?_ _) | (with_reducible refine zc3 ?_))); (case side2 => exact (Kd.V_reads' HO457.out).2.1); (case side3 => repeat (first | exact (Kd.V_reads' HO461.out).2.2 | (with_reducible refine zc1 ?_ _) | (with_reducible refine zc2 ?_ _) | (with_reducible refine zc3 ?_))); (case side4 => exact (Kd.V_reads' HO461.out).2.1); rintro e w20 ⟨v464, rfl, ho0, hb⟩; refine ⟨_, rfl, ?_⟩; have n0_ := zm (Kd.V_below (by (with_reducible repeat (first | apply zv1 | apply zv2 | apply zv3)); exact HO457.out) hb); have n1_ := zm (Kd.V_below (by (with_reducible repeat (first | apply zv1 | apply zv2 | apply zv3)); exact HO461.out) hb); have n2_ := zm (Kd.V_lower (Kd.V_mono (ok' := fun k_ => (w.heap.size ≤ k_)) ho0 (fun k_ hk_ => (Nat.le_trans (below_size (by repeat (first | (with_reducible first | exact HB.out | apply zb1 | apply zb2 | apply zb3) | exact HB.out))) hk_))) (below_size (by repeat (first | (with_reducible first | exact HB.out | apply zb1 | apply zb2 | apply zb3) | exact HB.out)))); have n3_ := zm (below_step (by repeat (first | (with_reducible first | exact HB.out | apply zb1 | apply zb2 | apply zb3) | exact HB.out)) hb); clear HO457; clear HO461; clear HB; have HO457 := n0_; have HO461 := n1_; have HO465 := n2_; have HB := n3_; clear n0_ n1_ n2_ n3_; (try clear hb); (try clear hb2); (try clear hk); (try clear hi); (try clear ho0)) | ((with_reducible refine gate_callee (f := 32) rfl ?_); refine goesL_ (some 38) rfl rfl Try.func32 (by kernel_rfl) rfl #[.slice Ao18 t455.length co18, .slice A2 l2.length c2] rfl (by (try simp only [zl1, zl2, zl3]); first | done | rfl | (simp only [List.length_drop, List.length_take]; rfl)) ?_; (with_reducible refine (nat_Add.calls k _ _ t455 _ _ l2 t467 _ ?side1 ?side2 ?side3 ?side4 A14.out).mono ?_); (case side1 => repeat (first | exact (Kd.V_reads' HO457.out).2.2 | (with_reducible refine zc1 ?_ _) | (with_reducible refine zc2 ?_ _) | (with_reducible refine zc3 ?_))); (case side2 => exact (Kd.V_reads' HO457.out).2.1); (case side3 => repeat (first | exact (Kd.C_below HR2.out HB.out) | (with_reducible refine zc1 ?_ _) | (with_reducible refine zc2 ?_ _) | (with_reducible refine zc3 ?_))); (case side4 => exact HC2.out); rintro e w21 ⟨v468, rfl, ho0, hb⟩; refine ⟨_, rfl, ?_⟩; have n0_ := zm (Kd.V_below (by (with_reducible repeat (first | apply zv1 | apply zv2 | apply zv3)); exact HO457.out) hb); have n1_ := zm (Kd.V_below (by (with_reducible repeat (first | apply zv1 | apply zv2 | apply zv3)); exact HO461.out) hb); have n2_ := zm (Kd.V_below (by (with_reducible repeat (first | apply zv1 | apply zv2 | apply zv3)); exact HO465.out) hb); have n3_ := zm (Kd.V_lower (Kd.V_mono (ok' := fun k_ => (w.heap.size ≤ k_)) ho0 (fun k_ hk_ => (Nat.le_trans (below_size (by repeat (first | (with_reducible first | exact HB.out | apply zb1 | apply zb2 | apply zb3) | exact HB.out))) hk_))) (below_size (by repeat (first | (with_reducible first | exact HB.out | apply zb1 | apply zb2 | apply zb3) | exact HB.out)))); have n4_ := zm (below_step (by repeat (first | (with_reducible first | exact HB.out | apply zb1 | apply zb2 | apply zb3) | exact HB.out)) hb); clear HO457; clear HO461; clear HO465; clear HB; have HO457 := n0_; have HO461 := n1_; have HO465 := n2_; have HO469 := n3_; have HB := n4_; clear n0_ n1_ n2_ n3_ n4_; (try clear hb); (try clear hb2); (try clear hk); (try clear hi); (try clear ho0); obtain ⟨Ao22, co22, eo22⟩ := Kd.V_slice HO469.out; subst eo22) | ((with_reducible refine gate_callee (f := 33) rfl ?_); refine goesL_ (some 40) rfl rfl Try.func33 (by kernel_rfl) rfl #[.slice Ao22 t467.length co22, .slice Ao19 t459.length co19] rfl (by (try simp only [zl1, zl2, zl3]); first | done | rfl | (simp only [List.length_drop, List.length_take]; rfl)) ?_; (with_reducible refine (nat_Sub.calls k _ _ t467 _ _ t459 t470 t473 _ ?side1 ?side2 ?side3 ?side4 A15.out).mono ?_); (case side1 => repeat (first | exact (Kd.V_reads' HO469.out).2.2 | (with_reducible refine zc1 ?_ _) | (with_reducible refine zc2 ?_ _) | (with_reducible refine zc3 ?_))); (case side2 => exact (Kd.V_reads' HO469.out).2.1); (case side3 => repeat (first | exact (Kd.V_reads' HO461.out).2.2 | (with_reducible refine zc1 ?_ _) | (with_reducible refine zc2 ?_ _) | (with_reducible refine zc3 ?_))); (case side4 => exact (Kd.V_reads' HO461.out).2.1); rintro e w23 ⟨v471, rfl, ho0, hb⟩; refine ⟨_, rfl, ?_⟩; have n0_ := zm (Kd.V_below (by (with_reducible repeat (first | apply zv1 | apply zv2 | apply zv3)); exact HO457.out) hb); have n1_ := zm (Kd.V_below (by (with_reducible repeat (first | apply zv1 | apply zv2 | apply zv3)); exact HO461.out) hb); have n2_ := zm (Kd.V_below (by (with_reducible repeat (first | apply zv1 | apply zv2 | apply zv3)); exact HO465.out) hb); have n3_ := zm (Kd.V_below (by (with_reducible repeat (first | apply zv1 | apply zv2 | apply zv3)); exact HO469.out) hb); have n4_ := zm (Kd.V_lower (Kd.V_mono (ok' := fun k_ => (w.heap.size ≤ k_)) ho0 (fun k_ hk_ => (Nat.le_trans (below_size (by repeat (first | (with_reducible first | exact HB.out | apply zb1 | apply zb2 | apply zb3) | exact HB.out))) hk_))) (below_size (by repeat (first | (with_reducible first | exact HB.out | apply zb1 | apply zb2 | apply zb3) | exact HB.out)))); have n5_ := zm (below_step (by repeat (first | (with_reducible first | exact HB.out | apply zb1 | apply zb2 | apply zb3) | exact HB.out)) hb); clear HO457; clear HO461; clear HO465; clear HO469; clear HB; have HO457 := n0_; have HO461 := n1_; have HO465 := n2_; have HO469 := n3_; have HO472 := n4_; have HB := n5_; clear n0_ n1_ n2_ n3_ n4_ n5_; (try clear hb); (try clear hb2); (try clear hk); (try clear hi); (try clear ho0)))
      go_ret2
      exact ⟨_, by first | rfl | (simp [errW_none, errW_some] <;> rfl) | (simp [*, errW_none, errW_some] <;> rfl), by (with_reducible repeat (first | apply zv1 | apply zv2 | apply zv3)); exact HO472.out, by repeat (first | (with_reducible first | exact HB.out | apply zb1 | apply zb2 | apply zb3) | exact HB.out)⟩
  · replace c5 := Bool.eq_false_iff.mpr c5
    subst c5
    have H1 : (some (([] : List Int), false)) = some (r1, r2) := by rw [if_neg (show ¬ (false = true) by decide)] at H; exact H
    clear H
    have H := H1
    clear H1
    simp only [Option.some.injEq, Prod.mk.injEq] at H
    obtain ⟨rfl, rfl⟩ := H
    go_enter Try.func18, Try.ntmps18
    go_wp2_with (first | ((with_reducible refine gate_callee (f := 25) rfl ?_); refine goesL_ (some 17) rfl rfl Try.func25 (by kernel_rfl) rfl #[.slice A0 l0.length c0, .slice A2 l2.length c2] rfl (by (try simp only [zl1, zl2, zl3]); first | done | rfl | (simp only [List.length_drop, List.length_take]; rfl)) ?_; (with_reducible refine (mod_rest.calls k _ _ l0 _ _ l2 t455 false _ ?side1 ?side2 ?side3 ?side4 A4.out).mono ?_); (case side1 => repeat (first | exact HR0.out | (with_reducible refine zc1 ?_ _) | (with_reducible refine zc2 ?_ _) | (with_reducible refine zc3 ?_))); (case side2 => exact HC0.out); (case side3 => repeat (first | exact HR2.out | (with_reducible refine zc1 ?_ _) | (with_reducible refine zc2 ?_ _) | (with_reducible refine zc3 ?_))); (case side4 => exact HC2.out); rintro e w24 ⟨v456, rfl, ho0, hb⟩; refine ⟨_, rfl, ?_⟩; have n0_ := zm (Kd.V_lower (Kd.V_mono (ok' := fun k_ => (w.heap.size ≤ k_)) ho0 (fun k_ hk_ => (Nat.le_trans (below_size (by repeat (first | (with_reducible first | exact HB.out | apply zb1 | apply zb2 | apply zb3) | exact HB.out))) hk_))) (below_size (by repeat (first | (with_reducible first | exact HB.out | apply zb1 | apply zb2 | apply zb3) | exact HB.out)))); have n1_ := zm (below_step (by repeat (first | (with_reducible first | exact HB.out | apply zb1 | apply zb2 | apply zb3) | exact HB.out)) hb); clear HB; have HO457 := n0_; have HB := n1_; clear n0_ n1_; (try clear hb); (try clear hb2); (try clear hk); (try clear hi); (try clear ho0)))
    go_ret2
    exact ⟨_, by first | rfl | (simp [errW_none, errW_some] <;> rfl) | (simp [*, errW_none, errW_some] <;> rfl), (Kd.V_nil _ _ _ _ _), by repeat (first | (with_reducible first | exact HB.out | apply zb1 | apply zb2 | apply zb3) | exact HB.out)⟩

/-! ### mod_Inv: function 13 -/
def mod_Inv.l0 : Nat → List Int → List Int → List Int → List Int → List Int → List Int → Option (List Int × Bool)
  | 0, _, _, _, _, _, _ => none
  | k + 1, x1, x6, x7, x8, x9, x11 => if (x9.length : Int) > 0 then ((nat_Div.f k x7 x9).bind fun bt482 => ((mod_Mul.f k bt482.1 x11 x1).bind fun bt489 => ((mod_Sub.f k x8 bt489.1 x1).bind fun bt493 => (mod_Inv.l0 k x1 x6 x9 x11 bt482.2.1 bt493.1)))) else ((nat_Cmp.f k x7 x6).bind fun t497 => (if t497 = 0 then ((mod_rest.f k x8 x1).bind fun bt498 => (some (bt498.1, bt498.2))) else (some (([] : List Int), false))))
def mod_Inv.f (k : Nat) (l0 : List Int) (l1 : List Int) : Option (List Int × Bool) := (some (([1] : List Int) : List Int)).bind fun y474 => ((nat_Cmp.f k l1 y474).bind fun t477 => (if t477 ≤ 0 then (some (([] : List Int), false)) else ((mod_rest.f k l0 l1).bind fun bt478 => (mod_Inv.l0 k l1 y474 l1 ([] : List Int) bt478.1 y474))))
theorem mod_Inv.mono_l : ∀ k, (∀ y0 y1 y2 y3 y4 y5, LeO (mod_Inv.l0 k y0 y1 y2 y3 y4 y5) (mod_Inv.l0 (k + 1) y0 y1 y2 y3 y4 y5))
  | 0 => fun _ _ _ _ _ _ r h => by simp [mod_Inv.l0] at h
  | k + 1 => by
    have ih0 := mod_Inv.mono_l k
    · intro y0 y1 y2 y3 y4 y5
      unfold mod_Inv.l0
      repeat' first
      | (with_reducible exact ih0 _ _ _ _ _ _)
      | (with_reducible exact mod_Mul.mono _ _ _ _)
      | (with_reducible exact mod_Sub.mono _ _ _ _)
      | (with_reducible exact mod_rest.mono _ _ _)
      | (with_reducible exact nat_Cmp.mono _ _ _)
      | (with_reducible exact nat_Div.mono _ _ _)
      | (with_reducible exact LeO.refl _)
      | (with_reducible exact LeO.none _)
      | (with_reducible refine LeO.ite ?_ ?_)
      | (with_reducible refine LeO.bind ?_ (fun _ => ?_))
      | exact ih0 _ _ _ _ _ _
      | exact mod_Mul.mono _ _ _ _
      | exact mod_Sub.mono _ _ _ _
      | exact mod_rest.mono _ _ _
      | exact nat_Cmp.mono _ _ _
      | exact nat_Div.mono _ _ _
      | exact LeO.none _
      | refine LeO.ite ?_ ?_
      | refine LeO.bind ?_ (fun _ => ?_)
theorem mod_Inv.mono : ∀ a0 a1 k, LeO (mod_Inv.f k a0 a1) (mod_Inv.f (k + 1) a0 a1) := by
  intro a0 a1 k
  have ih0 := mod_Inv.mono_l k
  unfold mod_Inv.f
  repeat' first
      | (with_reducible exact ih0 _ _ _ _ _ _)
      | (with_reducible exact mod_Mul.mono _ _ _ _)
      | (with_reducible exact mod_Sub.mono _ _ _ _)
      | (with_reducible exact mod_rest.mono _ _ _)
      | (with_reducible exact nat_Cmp.mono _ _ _)
      | (with_reducible exact nat_Div.mono _ _ _)
      | (with_reducible exact LeO.refl _)
      | (with_reducible exact LeO.none _)
      | (with_reducible refine LeO.ite ?_ ?_)
      | (with_reducible refine LeO.bind ?_ (fun _ => ?_))
      | exact ih0 _ _ _ _ _ _
      | exact mod_Mul.mono _ _ _ _
      | exact mod_Sub.mono _ _ _ _
      | exact mod_rest.mono _ _ _
      | exact nat_Cmp.mono _ _ _
      | exact nat_Div.mono _ _ _
      | exact LeO.none _
      | refine LeO.ite ?_ ?_
      | refine LeO.bind ?_ (fun _ => ?_)
set_option maxHeartbeats 8000000 in
set_option maxRecDepth 100000 in
theorem mod_Inv.calls (k : Nat) (A0 : Option Addr) (c0 : Nat) (l0 : List Int) (P1_ : Nat → Prop) (A1 : Option Addr) (c1 : Nat) (l1 : List Int) (r1 : List Int) (r2 : Bool) (w : World) (hr0 : Kd.C (Kd.int .u32) w A0 l0.length l0) (hc0 : l0.length ≤ c0) (hs1 : Kd.V (Kd.int .u32) 31 w w.heap.size (fun k_ => P1_ k_) (.slice A1 l1.length c1) l1) (h : mod_Inv.f k l0 l1 = some (r1, r2)) :
    Calls Try.prog 13 #[.slice A0 l0.length c0, .slice A1 l1.length c1] w fun e w' => ∃ v0_ : Value, e = .returned (.tuple #[v0_, .bool r2]) ∧ Kd.V (Kd.int .u32) 31 w' w.heap.size (fun k_ => (P1_ k_ ∨ w.heap.size ≤ k_)) v0_ r1 ∧ Below w.heap.size w w' := by
  have HR0 := zm hr0
  have HC0 := zm hc0
  clear hr0 hc0
  have HO1 := zm (show Kd.V (Kd.int .u32) 31 w w.heap.size (fun k_ => (P1_ k_ ∨ w.heap.size ≤ k_)) (.slice A1 l1.length c1) l1 from Kd.V_mono hs1 (fun k_ hk => .inl hk))
  have HB := zm (Below.refl w.heap.size w)
  have H : ((some (([1] : List Int) : List Int)).bind fun y474 => ((nat_Cmp.f k l1 y474).bind fun t477 => (if t477 ≤ 0 then (some (([] : List Int), false)) else ((mod_rest.f k l0 l1).bind fun bt478 => (mod_Inv.l0 k l1 y474 l1 ([] : List Int) bt478.1 y474))))) = some (r1, r2) := h
  clear h
  obtain ⟨y474, hy474⟩ : ∃ y_ : List Int, y_ = (([1] : List Int)) := ⟨_, rfl⟩
  replace H : ((nat_Cmp.f k l1 y474).bind fun t477 => (if t477 ≤ 0 then (some (([] : List Int), false)) else ((mod_rest.f k l0 l1).bind fun bt478 => (mod_Inv.l0 k l1 y474 l1 ([] : List Int) bt478.1 y474)))) = some (r1, r2) := by first | (rw [hy474]; with_reducible exact H) | (have H2_ := (Option.bind_some _ _).symm.trans H; rw [hy474]; with_reducible exact H2_) | (have H2_ := (Option.bind_some _ _).symm.trans H; with_reducible exact H2_) | with_reducible exact H | (rw [hy474]; exact H) | exact H
  have Ny474 := zm hy474
  clear hy474
  replace H := Option.bind_eq_some_iff.mp H
  obtain ⟨t477, A30, H⟩ := H
  replace H : (if t477 ≤ 0 then (some (([] : List Int), false)) else ((mod_rest.f k l0 l1).bind fun bt478 => (mod_Inv.l0 k l1 y474 l1 ([] : List Int) bt478.1 y474))) = some (r1, r2) := H
  have A3 := zm A30
  clear A30
  by_cases c4 : t477 ≤ 0
  · rw [if_pos c4] at H
    have c4b0 : decide (t477 ≤ 0) = true := decide_eq_true c4
    clear c4
    simp only [Option.some.injEq, Prod.mk.injEq] at H
    obtain ⟨rfl, rfl⟩ := H
    go_enter Try.func13, Try.ntmps13
    go_wp2_with (first | ((with_reducible refine gate_dst (N := 19) rfl ?_); refine Kd.R_lit (Kd.int .u32) _ 31 ?hg (N := 19) ?hd (xs := ([1] : List Int)) (inner := [.int .u32 1]) (ok := fun _ => True) (okp := fun _ => True) ?hr ?hp (fun _ hk => hk) trivial (Below.refl _ _) (Nat.le_refl _) (by simp) ?_; (case hd => rfl); (case hg => rfl); (case hr => first | (go_simp; done) | (go_simp; rfl)); (case hp => exact (Reps.one (show Kd.M (Kd.int .u32) _ _ _ 1 [.int .u32 1] from rfl) (Reps.none _ _))); intro v475 w5 ho6 hb hg_ hnew_; clear hg_ hnew_; (first | rw [← Ny474.out] at ho6 | (simp only [Int.reduceToNat] at ho6; rw [← Ny474.out] at ho6)); have n0_ := zm (Kd.V_elder' (by (with_reducible repeat (first | apply zv1 | apply zv2 | apply zv3)); exact HO1.out) (Kd.R_base ho6) hb); have n1_ := zm (Kd.R_lower (Kd.R_newM (M := fun k_ => (w.heap.size ≤ k_)) ho6 (below_size (by repeat (first | (with_reducible first | exact HB.out | apply zb1 | apply zb2 | apply zb3) | exact HB.out))) (fun k_ h_ => h_)) (below_size (by repeat (first | (with_reducible first | exact HB.out | apply zb1 | apply zb2 | apply zb3) | exact HB.out)))); have n2_ := zm (below_step (by repeat (first | (with_reducible first | exact HB.out | apply zb1 | apply zb2 | apply zb3) | exact HB.out)) hb); clear HO1; clear HB; have HO1 := n0_; have HO476 := n1_; have HB := n2_; clear n0_ n1_ n2_; clear hb ho6; obtain ⟨Ao7, co7, eo7⟩ := Kd.R_slice HO476.out; subst eo7) | ((with_reducible refine gate_callee (f := 28) rfl ?_); refine goesL_ (some 22) rfl rfl Try.func28 (by kernel_rfl) rfl #[.slice A1 l1.length c1, .slice Ao7 y474.length co7] rfl (by (try simp only [zl1, zl2, zl3]); first | done | rfl | (simp only [List.length_drop, List.length_take]; rfl)) ?_; (with_reducible refine (nat_Cmp.calls k _ _ l1 _ _ y474 t477 _ ?side1 ?side2 ?side3 ?side4 A3.out).mono ?_); (case side1 => repeat (first | exact (Kd.V_reads' HO1.out).2.2 | (with_reducible refine zc1 ?_ _) | (with_reducible refine zc2 ?_ _) | (with_reducible refine zc3 ?_))); (case side2 => exact (Kd.V_reads' HO1.out).2.1); (case side3 => repeat (first | exact (Kd.R_reads' HO476.out).2.2 | (with_reducible refine zc1 ?_ _) | (with_reducible refine zc2 ?_ _) | (with_reducible refine zc3 ?_))); (case side4 => exact (Kd.R_reads' HO476.out).2.1); rintro e w' ⟨rfl, ⟨nd, rfl⟩⟩; refine ⟨_, rfl, ?_⟩))
    go_ret2
    exact ⟨_, by first | rfl | (simp [errW_none, errW_some] <;> rfl) | (simp [*, errW_none, errW_some] <;> rfl), Kd.V_mono ((Kd.V_nil _ _ _ _ _)) (fun k_ hk => by first | exact ⟨(.inr (hk.1)), hk.2⟩ | exact (.inr (hk))), by repeat (first | (with_reducible first | exact HB.out | apply zb1 | apply zb2 | apply zb3) | exact HB.out)⟩
  · rw [if_neg c4] at H
    have c4b0 : decide (t477 ≤ 0) = false := decide_eq_false c4
    clear c4
    replace H := Option.bind_eq_some_iff.mp H
    obtain ⟨⟨t478, t481⟩, A80, H⟩ := H
    replace H : (mod_Inv.l0 k l1 y474 l1 ([] : List Int) t478 y474) = some (r1, r2) := H
    have A8 := zm A80
    clear A80
    have H' := zm H
    clear H
    go_enter Try.func13, Try.ntmps13
    go_wp2_with (first | ((with_reducible refine gate_dst (N := 19) rfl ?_); refine Kd.R_lit (Kd.int .u32) _ 31 ?hg (N := 19) ?hd (xs := ([1] : List Int)) (inner := [.int .u32 1]) (ok := fun _ => True) (okp := fun _ => True) ?hr ?hp (fun _ hk => hk) trivial (Below.refl _ _) (Nat.le_refl _) (by simp) ?_; (case hd => rfl); (case hg => rfl); (case hr => first | (go_simp; done) | (go_simp; rfl)); (case hp => exact (Reps.one (show Kd.M (Kd.int .u32) _ _ _ 1 [.int .u32 1] from rfl) (Reps.none _ _))); intro v475 w9 ho10 hb hg_ hnew_; clear hg_ hnew_; (first | rw [← Ny474.out] at ho10 | (simp only [Int.reduceToNat] at ho10; rw [← Ny474.out] at ho10)); have n0_ := zm (Kd.V_elder' (by (with_reducible repeat (first | apply zv1 | apply zv2 | apply zv3)); exact HO1.out) (Kd.R_base ho10) hb); have n1_ := zm (Kd.R_lower (Kd.R_newM (M := fun k_ => (w.heap.size ≤ k_)) ho10 (below_size (by repeat (first | (with_reducible first | exact HB.out | apply zb1 | apply zb2 | apply zb3) | exact HB.out))) (fun k_ h_ => h_)) (below_size (by repeat (first | (with_reducible first | exact HB.out | apply zb1 | apply zb2 | apply zb3) | exact HB.out)))); have n2_ := zm (below_step (by repeat (first | (with_reducible first | exact HB.out | apply zb1 | apply zb2 | apply zb3) | exact HB.out)) hb); clear HO1; clear HB; have HO1 := n0_; have HO476 := n1_; have HB := n2_; clear n0_ n1_ n2_; clear hb ho10; obtain ⟨Ao11, co11, eo11⟩ := Kd.R_slice HO476.out; subst eo11) | ((with_reducible refine gate_callee (f := 28) rfl ?_); refine goesL_ (some 22) rfl rfl Try.func28 (by kernel_rfl) rfl #[.slice A1 l1.length c1, .slice Ao11 y474.length co11] rfl (by (try simp only [zl1, zl2, zl3]); first | done | rfl | (simp only [List.length_drop, List.length_take]; rfl)) ?_; (with_reducible refine (nat_Cmp.calls k _ _ l1 _ _ y474 t477 _ ?side1 ?side2 ?side3 ?side4 A3.out).mono ?_); (case side1 => repeat (first | exact (Kd.V_reads' HO1.out).2.2 | (with_reducible refine zc1 ?_ _) | (with_reducible refine zc2 ?_ _) | (with_reducible refine zc3 ?_))); (case side2 => exact (Kd.V_reads' HO1.out).2.1); (case side3 => repeat (first | exact (Kd.R_reads' HO476.out).2.2 | (with_reducible refine zc1 ?_ _) | (with_reducible refine zc2 ?_ _) | (with_reducible refine zc3 ?_))); (case side4 => exact (Kd.R_reads' HO476.out).2.1); rintro e w' ⟨rfl, ⟨nd, rfl⟩⟩; refine ⟨_, rfl, ?_⟩) | ((with_reducible refine gate_callee (f := 25) rfl ?_); refine goesL_ (some 28) rfl rfl Try.func25 (by kernel_rfl) rfl #[.slice A0 l0.length c0, .slice A1 l1.length c1] rfl (by (try simp only [zl1, zl2, zl3]); first | done | rfl | (simp only [List.length_drop, List.length_take]; rfl)) ?_; (with_reducible refine (mod_rest.calls k _ _ l0 _ _ l1 t478 t481 _ ?side1 ?side2 ?side3 ?side4 A8.out).mono ?_); (case side1 => repeat (first | exact (Kd.C_below HR0.out (by repeat (first | (with_reducible first | exact HB.out | apply zb1 | apply zb2 | apply zb3) | exact HB.out))) | (with_reducible refine zc1 ?_ _) | (with_reducible refine zc2 ?_ _) | (with_reducible refine zc3 ?_))); (case side2 => exact HC0.out); (case side3 => repeat (first | exact (Kd.V_reads' HO1.out).2.2 | (with_reducible refine zc1 ?_ _) | (with_reducible refine zc2 ?_ _) | (with_reducible refine zc3 ?_))); (case side4 => exact (Kd.V_reads' HO1.out).2.1); rintro e w12 ⟨v479, rfl, ho0, hb⟩; refine ⟨_, rfl, ?_⟩; have n0_ := zm (Kd.V_below (by (with_reducible repeat (first | apply zv1 | apply zv2 | apply zv3)); exact HO1.out) hb); have n1_ := zm (Kd.R_below (by (with_reducible repeat (first | apply zr1 | apply zr2 | apply zr3)); exact HO476.out) hb); have n2_ := zm (Kd.V_lower (Kd.V_mono (ok' := fun k_ => (P1_ k_ ∨ w.heap.size ≤ k_) ∧ some k_ ≠ (.slice Ao11 y474.length co11 : Value).ownBlock) ho0 (fun k_ hk_ => ⟨(.inr (Nat.le_trans (below_size (by repeat (first | (with_reducible first | exact HB.out | apply zb1 | apply zb2 | apply zb3) | exact HB.out))) hk_)), (Kd.fresh' (Kd.R_lt (by (with_reducible repeat (first | apply zr1 | apply zr2 | apply zr3)); exact HO476.out)) k_ hk_)⟩)) (below_size (by repeat (first | (with_reducible first | exact HB.out | apply zb1 | apply zb2 | apply zb3) | exact HB.out)))); have n3_ := zm (below_step (by repeat (first | (with_reducible first | exact HB.out | apply zb1 | apply zb2 | apply zb3) | exact HB.out)) hb); clear HO1; clear HO476; clear HB; have HO1 := n0_; have HO476 := n1_; have HO480 := n2_; have HB := n3_; clear n0_ n1_ n2_ n3_; (try clear hb); (try clear hb2); (try clear hk); (try clear hi); (try clear ho0)))
    go_loopg [7, 8, 9, 11] k (fun kq v7 v8 v9 v11 w' => ∃ (x7_1 : List Int) (x8_1 : List Int) (x9_1 : List Int) (x11_1 : List Int), Aside0 (mod_Inv.l0 kq l1 y474 x7_1 x8_1 x9_1 x11_1 = some (r1, r2)) ∧ Aside0 (kq ≤ k) ∧ Aside0 (Kd.V (Kd.int .u32) 31 w' w.heap.size (fun k_ => (P1_ k_ ∨ w.heap.size ≤ k_) ∧ some k_ ≠ ((.slice Ao11 y474.length co11) : Value).ownBlock) (.slice A1 l1.length c1) l1) ∧ Aside0 (Kd.R (Kd.int .u32) 31 w' w.heap.size (fun k_ => (w.heap.size ≤ k_)) (.slice Ao11 y474.length co11) y474) ∧ Aside0 (Kd.V (Kd.int .u32) 31 w' w.heap.size (fun k_ => (P1_ k_ ∨ w.heap.size ≤ k_) ∧ some k_ ≠ ((.slice Ao11 y474.length co11) : Value).ownBlock) v7 x7_1) ∧ Aside0 (Kd.V (Kd.int .u32) 31 w' w.heap.size (fun k_ => (P1_ k_ ∨ w.heap.size ≤ k_)) v8 x8_1) ∧ Aside0 (Kd.V (Kd.int .u32) 31 w' w.heap.size (fun k_ => (P1_ k_ ∨ w.heap.size ≤ k_) ∧ some k_ ≠ ((.slice Ao11 y474.length co11) : Value).ownBlock) v9 x9_1) ∧ Aside0 (Kd.V (Kd.int .u32) 31 w' w.heap.size (fun k_ => (P1_ k_ ∨ w.heap.size ≤ k_)) v11 x11_1) ∧ Aside0 (Below w.heap.size w w'))
    case atStart => exact ⟨(l1), (([] : List Int)), (t478), (y474), H', ⟨Nat.le_refl _⟩, ⟨by (with_reducible repeat (first | apply zv1 | apply zv2 | apply zv3)); (first | exact HO1.out | exact Kd.V_mono HO1.out (fun k_ h_ => h_.1))⟩, ⟨by (with_reducible repeat (first | apply zr1 | apply zr2 | apply zr3)); exact Kd.R_mono HO476.out (fun _ hk => hk.1)⟩, ⟨by (with_reducible repeat (first | apply zv1 | apply zv2 | apply zv3)); (first | exact HO1.out | exact Kd.V_mono HO1.out (fun k_ h_ => h_.1))⟩, ⟨Kd.V_mono ((Kd.V_nil _ _ _ _ _)) (fun k_ hk => by first | exact ⟨(.inr (hk.1)), hk.2⟩ | exact (.inr (hk)))⟩, ⟨by (with_reducible repeat (first | apply zv1 | apply zv2 | apply zv3)); (first | exact HO480.out | exact Kd.V_mono HO480.out (fun k_ h_ => h_.1))⟩, ⟨Kd.V_mono (Kd.R_V (by (with_reducible repeat (first | apply zr1 | apply zr2 | apply zr3)); exact Kd.R_mono HO476.out (fun _ hk => hk.1))) (fun k_ hk => by first | exact ⟨(.inr (hk.1)), hk.2⟩ | exact (.inr (hk)))⟩, ⟨by repeat (first | (with_reducible first | exact HB.out | apply zb1 | apply zb2 | apply zb3) | exact HB.out)⟩⟩
    case round =>
      clear H'
      try clear c1
      try clear c2
      try clear p2
      try clear c4
      try clear c4b0
      obtain ⟨x7_1, x8_1, x9_1, x11_1, HA, HK1, HO_1, HO_6, HO_7, HO_8, HO_9, HO_11, HB⟩ := hrel
      cases gk with
      | zero => exact absurd HA.out (by simp [mod_Inv.l0])
      | succ k1 =>
        have H := HA.out
        clear HA
        simp only [mod_Inv.l0] at H
        by_cases c13 : (x9_1.length : Int) > 0
        · rw [if_pos c13] at H
          have c13b0 : decide (0 < (x9_1.length : Int)) = true := decide_eq_true c13
          have c13b1 : decide (0 < x9_1.length) = true := decide_eq_true (by omega)
          clear c13
          replace H := Option.bind_eq_some_iff.mp H
          obtain ⟨⟨t482, t485, t488⟩, A140, H⟩ := H
          replace H : ((mod_Mul.f k1 t482 x11_1 l1).bind fun bt489 => ((mod_Sub.f k1 x8_1 bt489.1 l1).bind fun bt493 => (mod_Inv.l0 k1 l1 y474 x9_1 x11_1 t485 bt493.1))) = some (r1, r2) := H
          have A14 := zm A140
          clear A140
          replace H := Option.bind_eq_some_iff.mp H
          obtain ⟨⟨t489, t492⟩, A150, H⟩ := H
          replace H : ((mod_Sub.f k1 x8_1 t489 l1).bind fun bt493 => (mod_Inv.l0 k1 l1 y474 x9_1 x11_1 t485 bt493.1)) = some (r1, r2) := H
          have A15 := zm A150
          clear A150
          replace H := Option.bind_eq_some_iff.mp H
          obtain ⟨⟨t493, t496⟩, A160, H⟩ := H
          replace H : (mod_Inv.l0 k1 l1 y474 x9_1 x11_1 t485 t493) = some (r1, r2) := H
          have A16 := zm A160
          clear A160
          have H' := zm H
          clear H
          obtain ⟨Ao17, co17, eo17⟩ := Kd.V_slice HO_9.out
          subst eo17
          obtain ⟨Ao18, co18, eo18⟩ := Kd.V_slice HO_7.out
          subst eo18
          go_wp2_with (first | ((with_reducible refine gate_callee (f := 29) rfl ?_); refine goesL_ (some 38) rfl rfl Try.func29 (by kernel_rfl) rfl #[.slice Ao18 x7_1.length co18, .slice Ao17 x9_1.length co17] rfl (by (try simp only [zl1, zl2, zl3]); first | done | rfl | (simp only [List.length_drop, List.length_take]; rfl)) ?_; (with_reducible refine (nat_Div.calls k1 _ _ x7_1 _ _ x9_1 t482 t485 t488 _ ?side1 ?side2 ?side3 ?side4 A14.out).mono ?_); (case side1 => repeat (first | exact (Kd.V_reads' HO_7.out).2.2 | (with_reducible refine zc1 ?_ _) | (with_reducible refine zc2 ?_ _) | (with_reducible refine zc3 ?_))); (case side2 => exact (Kd.V_reads' HO_7.out).2.1); (case side3 => repeat (first | exact (Kd.V_reads' HO_9.out).2.2 | (with_reducible refine zc1 ?_ _) | (with_reducible refine zc2 ?_ _) | (with_reducible refine zc3 ?_))); (case side4 => exact (Kd.V_reads' HO_9.out).2.1); rintro e w19 ⟨v483, v486, rfl, ho0, ho1, hb⟩; refine ⟨_, rfl, ?_⟩; have n0_ := zm (Kd.V_below (by (with_reducible repeat (first | apply zv1 | apply zv2 | apply zv3)); exact HO_1.out) hb); have n1_ := zm (Kd.R_below (by (with_reducible repeat (first | apply zr1 | apply zr2 | apply zr3)); exact HO_6.out) hb); have n2_ := zm (Kd.V_below (by (with_reducible repeat (first | apply zv1 | apply zv2 | apply zv3)); exact HO_7.out) hb); have n3_ := zm (Kd.V_below (by (with_reducible repeat (first | apply zv1 | apply zv2 | apply zv3)); exact HO_8.out) hb); have n4_ := zm (Kd.V_below (by (with_reducible repeat (first | apply zv1 | apply zv2 | apply zv3)); exact HO_9.out) hb); have n5_ := zm (Kd.V_below (by (with_reducible repeat (first | apply zv1 | apply zv2 | apply zv3)); exact HO_11.out) hb); have n6_ := zm (Kd.V_lower (Kd.V_mono (ok' := fun k_ => (P1_ k_ ∨ w.heap.size ≤ k_) ∧ some k_ ≠ (.slice Ao11 y474.length co11 : Value).ownBlock) ho0 (fun k_ hk_ => ⟨(.inr (Nat.le_trans (below_size (by repeat (first | (with_reducible first | exact HB.out | apply zb1 | apply zb2 | apply zb3) | exact HB.out))) hk_)), (Kd.fresh' (Kd.R_lt (by (with_reducible repeat (first | apply zr1 | apply zr2 | apply zr3)); exact HO_6.out)) k_ hk_)⟩)) (below_size (by repeat (first | (with_reducible first | exact HB.out | apply zb1 | apply zb2 | apply zb3) | exact HB.out)))); have n7_ := zm (Kd.V_lower (Kd.V_mono (ok' := fun k_ => (P1_ k_ ∨ w.heap.size ≤ k_) ∧ some k_ ≠ (.slice Ao11 y474.length co11 : Value).ownBlock) ho1 (fun k_ hk_ => ⟨(.inr (Nat.le_trans (below_size (by repeat (first | (with_reducible first | exact HB.out | apply zb1 | apply zb2 | apply zb3) | exact HB.out))) hk_)), (Kd.fresh' (Kd.R_lt (by (with_reducible repeat (first | apply zr1 | apply zr2 | apply zr3)); exact HO_6.out)) k_ hk_)⟩)) (below_size (by repeat (first | (with_reducible first | exact HB.out | apply zb1 | apply zb2 | apply zb3) | exact HB.out)))); have n8_ := zm (below_step (by repeat (first | (with_reducible first | exact HB.out | apply zb1 | apply zb2 | apply zb3) | exact HB.out)) hb); clear HO_1; clear HO_6; clear HO_7; clear HO_8; clear HO_9; clear HO_11; clear HB; have HO_1 := n0_; have HO_6 := n1_; have HO_7 := n2_; have HO_8 := n3_; have HO_9 := n4_; have HO_11 := n5_; have HO484 := n6_; have HO487 := n7_; have HB := n8_; clear n0_ n1_ n2_ n3_ n4_ n5_ n6_ n7_ n8_; (try clear hb); (try clear hb2); (try clear hk); (try clear hi); (try clear ho0); (try clear ho1); obtain ⟨Ao20, co20, eo20⟩ := Kd.V_slice HO484.out; subst eo20; obtain ⟨Ao21, co21, eo21⟩ := Kd.V_slice HO_11.out; subst eo21) | ((with_reducible refine gate_callee (f := 19) rfl ?_); refine goesL_ (some 46) rfl rfl Try.func19 (by kernel_rfl) rfl #[.slice Ao20 t482.length co20, .slice Ao21 x11_1.length co21, .slice A1 l1.length c1] rfl (by (try simp only [zl1, zl2, zl3]); first | done | rfl | (simp only [List.length_drop, List.length_take]; rfl)) ?_; (with_reducible refine (mod_Mul.calls k1 _ _ t482 _ _ x11_1 _ _ l1 t489 t492 _ ?side1 ?side2 ?side3 ?side4 ?side5 ?side6 A15.out).mono ?_); (case side1 => repeat (first | exact (Kd.V_reads' HO484.out).2.2 | (with_reducible refine zc1 ?_ _) | (with_reducible refine zc2 ?_ _) | (with_reducible refine zc3 ?_))); (case side2 => exact (Kd.V_reads' HO484.out).2.1); (case side3 => repeat (first | exact (Kd.V_reads' HO_11.out).2.2 | (with_reducible refine zc1 ?_ _) | (with_reducible refine zc2 ?_ _) | (with_reducible refine zc3 ?_))); (case side4 => exact (Kd.V_reads' HO_11.out).2.1); (case side5 => repeat (first | exact (Kd.V_reads' HO_1.out).2.2 | (with_reducible refine zc1 ?_ _) | (with_reducible refine zc2 ?_ _) | (with_reducible refine zc3 ?_))); (case side6 => exact (Kd.V_reads' HO_1.out).2.1); rintro e w22 ⟨v490, rfl, ho0, hb⟩; refine ⟨_, rfl, ?_⟩; have n0_ := zm (Kd.V_below (by (with_reducible repeat (first | apply zv1 | apply zv2 | apply zv3)); exact HO_1.out) hb); have n1_ := zm (Kd.R_below (by (with_reducible repeat (first | apply zr1 | apply zr2 | apply zr3)); exact HO_6.out) hb); have n2_ := zm (Kd.V_below (by (with_reducible repeat (first | apply zv1 | apply zv2 | apply zv3)); exact HO_7.out) hb); have n3_ := zm (Kd.V_below (by (with_reducible repeat (first | apply zv1 | apply zv2 | apply zv3)); exact HO_8.out) hb); have n4_ := zm (Kd.V_below (by (with_reducible repeat (first | apply zv1 | apply zv2 | apply zv3)); exact HO_9.out) hb); have n5_ := zm (Kd.V_below (by (with_reducible repeat (first | apply zv1 | apply zv2 | apply zv3)); exact HO_11.out) hb); have n6_ := zm (Kd.V_below (by (with_reducible repeat (first | apply zv1 | apply zv2 | apply zv3)); exact HO484.out) hb); have n7_ := zm (Kd.V_below (by (with_reducible repeat (first | apply zv1 | apply zv2 | apply zv3)); exact HO487.out) hb); have n8_ := zm (Kd.V_lower (Kd.V_mono (ok' := fun k_ => (P1_ k_ ∨ w.heap.size ≤ k_) ∧ some k_ ≠ (.slice Ao11 y474.length co11 : Value).ownBlock) ho0 (fun k_ hk_ => ⟨(.inr (Nat.le_trans (below_size (by repeat (first | (with_reducible first | exact HB.out | apply zb1 | apply zb2 | apply zb3) | exact HB.out))) hk_)), (Kd.fresh' (Kd.R_lt (by (with_reducible repeat (first | apply zr1 | apply zr2 | apply zr3)); exact HO_6.out)) k_ hk_)⟩)) (below_size (by repeat (first | (with_reducible first | exact HB.out | apply zb1 | apply zb2 | apply zb3) | exact HB.out)))); have n9_ := zm (below_step (by repeat (first | (with_reducible first | exact HB.out | apply zb1 | apply zb2 | apply zb3) | exact HB.out)) hb); clear HO_1; clear HO_6; clear HO_7; clear HO_8; clear HO_9; clear HO_11; clear HO484; clear HO487; clear HB; have HO_1 := n0_; have HO_6 := n1_; have HO_7 := n2_; have HO_8 := n3_; have HO_9 := n4_; have HO_11 := n5_; have HO484 := n6_; have HO487 := n7_; have HO491 := n8_; have HB := n9_; clear n0_ n1_ n2_ n3_ n4_ n5_ n6_ n7_ n8_ n9_; (try clear hb); (try clear hb2); (try clear hk); (try clear hi); (try clear ho0); obtain ⟨Ao23, co23, eo23⟩ := Kd.V_slice HO_8.out; subst eo23; obtain ⟨Ao24, co24, eo24⟩ := Kd.V_slice HO491.out; subst eo24) | ((with_reducible refine gate_callee (f := 18) rfl ?_); refine goesL_ (some 53) rfl rfl Try.func18 (by kernel_rfl) rfl #[.slice Ao23 x8_1.length co23, .slice Ao24 t489.length co24, .slice A1 l1.length c1] rfl (by (try simp only [zl1, zl2, zl3]); first | done | rfl | (simp only [List.length_drop, List.length_take]; rfl)) ?_; (with_reducible refine (mod_Sub.calls k1 _ _ x8_1 _ _ t489 _ _ l1 t493 t496 _ ?side1 ?side2 ?side3 ?side4 ?side5 ?side6 A16.out).mono ?_); (case side1 => repeat (first | exact (Kd.V_reads' HO_8.out).2.2 | (with_reducible refine zc1 ?_ _) | (with_reducible refine zc2 ?_ _) | (with_reducible refine zc3 ?_))); (case side2 => exact (Kd.V_reads' HO_8.out).2.1); (case side3 => repeat (first | exact (Kd.V_reads' HO491.out).2.2 | (with_reducible refine zc1 ?_ _) | (with_reducible refine zc2 ?_ _) | (with_reducible refine zc3 ?_))); (case side4 => exact (Kd.V_reads' HO491.out).2.1); (case side5 => repeat (first | exact (Kd.V_reads' HO_1.out).2.2 | (with_reducible refine zc1 ?_ _) | (with_reducible refine zc2 ?_ _) | (with_reducible refine zc3 ?_))); (case side6 => exact (Kd.V_reads' HO_1.out).2.1); rintro e w25 ⟨v494, rfl, ho0, hb⟩; refine ⟨_, rfl, ?_⟩; have n0_ := zm (Kd.V_below (by (with_reducible repeat (first | apply zv1 | apply zv2 | apply zv3)); exact HO_1.out) hb); have n1_ := zm (Kd.R_below (by (with_reducible repeat (first | apply zr1 | apply zr2 | apply zr3)); exact HO_6.out) hb); have n2_ := zm (Kd.V_below (by (with_reducible repeat (first | apply zv1 | apply zv2 | apply zv3)); exact HO_7.out) hb); have n3_ := zm (Kd.V_below (by (with_reducible repeat (first | apply zv1 | apply zv2 | apply zv3)); exact HO_8.out) hb); have n4_ := zm (Kd.V_below (by (with_reducible repeat (first | apply zv1 | apply zv2 | apply zv3)); exact HO_9.out) hb); have n5_ := zm (Kd.V_below (by (with_reducible repeat (first | apply zv1 | apply zv2 | apply zv3)); exact HO_11.out) hb); have n6_ := zm (Kd.V_below (by (with_reducible repeat (first | apply zv1 | apply zv2 | apply zv3)); exact HO484.out) hb); have n7_ := zm (Kd.V_below (by (with_reducible repeat (first | apply zv1 | apply zv2 | apply zv3)); exact HO487.out) hb); have n8_ := zm (Kd.V_below (by (with_reducible repeat (first | apply zv1 | apply zv2 | apply zv3)); exact HO491.out) hb); have n9_ := zm (Kd.V_lower (Kd.V_mono (ok' := fun k_ => (P1_ k_ ∨ w.heap.size ≤ k_) ∧ some k_ ≠ (.slice Ao11 y474.length co11 : Value).ownBlock) ho0 (fun k_ hk_ => ⟨(.inr (Nat.le_trans (below_size (by repeat (first | (with_reducible first | exact HB.out | apply zb1 | apply zb2 | apply zb3) | exact HB.out))) hk_)), (Kd.fresh' (Kd.R_lt (by (with_reducible repeat (first | apply zr1 | apply zr2 | apply zr3)); exact HO_6.out)) k_ hk_)⟩)) (below_size (by repeat (first | (with_reducible first | exact HB.out | apply zb1 | apply zb2 | apply zb3) | exact HB.out)))); have n10_ := zm (below_step (by repeat (first | (with_reducible first | exact HB.out | apply zb1 | apply zb2 | apply zb3) | exact HB.out)) hb); clear HO_1; clear HO_6; clear HO_7; clear HO_8; clear HO_9; clear HO_11; clear HO484; clear HO487; clear HO491; clear HB; have HO_1 := n0_; have HO_6 := n1_; have HO_7 := n2_; have HO_8 := n3_; have HO_9 := n4_; have HO_11 := n5_; have HO484 := n6_; have HO487 := n7_; have HO491 := n8_; have HO495 := n9_; have HB := n10_; clear n0_ n1_ n2_ n3_ n4_ n5_ n6_ n7_ n8_ n9_ n10_; (try clear hb); (try clear hb2); (try clear hk); (try clear hi); (try clear ho0)))
          go_roundg k1
          case measure => have := HK1.out; omega
          case rel => exact ⟨(x9_1), (x11_1), (t485), (t493), H', ⟨by have := HK1.out; omega⟩, ⟨by (with_reducible repeat (first | apply zv1 | apply zv2 | apply zv3)); (first | exact HO_1.out | exact Kd.V_mono HO_1.out (fun k_ h_ => h_.1))⟩, ⟨by (with_reducible repeat (first | apply zr1 | apply zr2 | apply zr3)); (first | exact HO_6.out | exact Kd.R_mono HO_6.out (fun k_ h_ => h_.1))⟩, ⟨by (with_reducible repeat (first | apply zv1 | apply zv2 | apply zv3)); (first | exact HO_9.out | exact Kd.V_mono HO_9.out (fun k_ h_ => h_.1))⟩, ⟨by (with_reducible repeat (first | apply zv1 | apply zv2 | apply zv3)); (first | exact HO_11.out | exact Kd.V_mono HO_11.out (fun k_ h_ => h_.1))⟩, ⟨by (with_reducible repeat (first | apply zv1 | apply zv2 | apply zv3)); (first | exact HO487.out | exact Kd.V_mono HO487.out (fun k_ h_ => h_.1))⟩, ⟨by (with_reducible repeat (first | apply zv1 | apply zv2 | apply zv3)); (first | exact HO495.out | exact Kd.V_mono HO495.out (fun k_ h_ => h_.1))⟩, ⟨by repeat (first | (with_reducible first | exact HB.out | apply zb1 | apply zb2 | apply zb3) | exact HB.out)⟩⟩
        · rw [if_neg c13] at H
          have c13b0 : decide (0 < (x9_1.length : Int)) = false := decide_eq_false c13
          have c13b1 : decide (0 < x9_1.length) = false := decide_eq_false (by omega)
          clear c13
          replace H := Option.bind_eq_some_iff.mp H
          obtain ⟨t497, A260, H⟩ := H
          replace H : (if t497 = 0 then ((mod_rest.f k1 x8_1 l1).bind fun bt498 => (some (bt498.1, bt498.2))) else (some (([] : List Int), false))) = some (r1, r2) := H
          have A26 := zm A260
          clear A260
          by_cases c27 : t497 = 0
          · rw [if_pos c27] at H
            have c27b0 : (t497 == 0) = true := beq_iff_eq.mpr c27
            have c27b1 : (t497 != 0) = false := bne_eq_false_iff_eq.mpr c27
            clear c27
            replace H := Option.bind_eq_some_iff.mp H
            obtain ⟨⟨t498, t501⟩, A280, H⟩ := H
            replace H : (some (t498, t501)) = some (r1, r2) := H
            have A28 := zm A280
            clear A280
            simp only [Option.some.injEq, Prod.mk.injEq] at H
            obtain ⟨rfl, rfl⟩ := H
            obtain ⟨Ao29, co29, eo29⟩ := Kd.V_slice HO_9.out
            subst eo29
            obtain ⟨Ao30, co30, eo30⟩ := Kd.V_slice HO_7.out
            subst eo30
            go_wp2_with (first | ((with_reducible refine gate_callee (f := 28) rfl ?_); refine goesL_ (some 62) rfl rfl Try.func28 (by kernel_rfl) rfl #[.slice Ao30 x7_1.length co30, .slice Ao11 y474.length co11] rfl (by (try simp only [zl1, zl2, zl3]); first | done | rfl | (simp only [List.length_drop, List.length_take]; rfl)) ?_; (with_reducible refine (nat_Cmp.calls k1 _ _ x7_1 _ _ y474 t497 _ ?side1 ?side2 ?side3 ?side4 A26.out).mono ?_); (case side1 => repeat (first | exact (Kd.V_reads' HO_7.out).2.2 | (with_reducible refine zc1 ?_ _) | (with_reducible refine zc2 ?_ _) | (with_reducible refine zc3 ?_))); (case side2 => exact (Kd.V_reads' HO_7.out).2.1); (case side3 => repeat (first | exact (Kd.R_reads' HO_6.out).2.2 | (with_reducible refine zc1 ?_ _) | (with_reducible refine zc2 ?_ _) | (with_reducible refine zc3 ?_))); (case side4 => exact (Kd.R_reads' HO_6.out).2.1); rintro e w' ⟨rfl, ⟨nd, rfl⟩⟩; refine ⟨_, rfl, ?_⟩; obtain ⟨Ao31, co31, eo31⟩ := Kd.V_slice HO_8.out; subst eo31) | ((with_reducible refine gate_callee (f := 25) rfl ?_); refine goesL_ (some 66) rfl rfl Try.func25 (by kernel_rfl) rfl #[.slice Ao31 x8_1.length co31, .slice A1 l1.length c1] rfl (by (try simp only [zl1, zl2, zl3]); first | done | rfl | (simp only [List.length_drop, List.length_take]; rfl)) ?_; (with_reducible refine (mod_rest.calls k1 _ _ x8_1 _ _ l1 t498 t501 _ ?side1 ?side2 ?side3 ?side4 A28.out).mono ?_); (case side1 => repeat (first | exact (Kd.V_reads' HO_8.out).2.2 | (with_reducible refine zc1 ?_ _) | (with_reducible refine zc2 ?_ _) | (with_reducible refine zc3 ?_))); (case side2 => exact (Kd.V_reads' HO_8.out).2.1); (case side3 => repeat (first | exact (Kd.V_reads' HO_1.out).2.2 | (with_reducible refine zc1 ?_ _) | (with_reducible refine zc2 ?_ _) | (with_reducible refine zc3 ?_))); (case side4 => exact (Kd.V_reads' HO_1.out).2.1); rintro e w32 ⟨v499, rfl, ho0, hb⟩; refine ⟨_, rfl, ?_⟩; have n0_ := zm (Kd.V_below (by (with_reducible repeat (first | apply zv1 | apply zv2 | apply zv3)); exact HO_1.out) hb); have n1_ := zm (Kd.R_below (by (with_reducible repeat (first | apply zr1 | apply zr2 | apply zr3)); exact HO_6.out) hb); have n2_ := zm (Kd.V_below (by (with_reducible repeat (first | apply zv1 | apply zv2 | apply zv3)); exact HO_7.out) hb); have n3_ := zm (Kd.V_below (by (with_reducible repeat (first | apply zv1 | apply zv2 | apply zv3)); exact HO_8.out) hb); have n4_ := zm (Kd.V_below (by (with_reducible repeat (first | apply zv1 | apply zv2 | apply zv3)); exact HO_9.out) hb); have n5_ := zm (Kd.V_below (by (with_reducible repeat (first | apply zv1 | apply zv2 | apply zv3)); exact HO_11.out) hb); have n6_ := zm (Kd.V_lower (Kd.V_mono (ok' := fun k_ => (P1_ k_ ∨ w.heap.size ≤ k_) ∧ some k_ ≠ (.slice Ao11 y474.length co11 : Value).ownBlock) ho0 (fun k_ hk_ => ⟨(.inr (Nat.le_trans (below_size (by repeat (first | (with_reducible first | exact HB.out | apply zb1 | apply zb2 | apply zb3) | exact HB.out))) hk_)), (Kd.fresh' (Kd.R_lt (by (with_reducible repeat (first | apply zr1 | apply zr2 | apply zr3)); exact HO_6.out)) k_ hk_)⟩)) (below_size (by repeat (first | (with_reducible first | exact HB.out | apply zb1 | apply zb2 | apply zb3) | exact HB.out)))); have n7_ := zm (below_step (by repeat (first | (with_reducible first | exact HB.out | apply zb1 | apply zb2 | apply zb3) | exact HB.out)) hb); clear HO_1; clear HO_6; clear HO_7; clear HO_8; clear HO_9; clear HO_11; clear HB; have HO_1 := n0_; have HO_6 := n1_; have HO_7 := n2_; have HO_8 := n3_; have HO_9 := n4_; have HO_11 := n5_; have HO500 := n6_; have HB := n7_; clear n0_ n1_ n2_ n3_ n4_ n5_ n6_ n7_; (try clear hb); (try clear hb2); (try clear hk); (try clear hi); (try clear ho0)))
            go_ret2
            exact ⟨_, by first | rfl | (simp [errW_none, errW_some] <;> rfl) | (simp [*, errW_none, errW_some] <;> rfl), by (with_reducible repeat (first | apply zv1 | apply zv2 | apply zv3)); exact Kd.V_mono HO500.out (fun _ hk => hk.1), by repeat (first | (with_reducible first | exact HB.out | apply zb1 | apply zb2 | apply zb3) | exact HB.out)⟩
          · rw [if_neg c27] at H
            have c27b0 : (t497 == 0) = false := beq_eq_false_iff_ne.mpr c27
            have c27b1 : (t497 != 0) = true := bne_iff_ne.mpr c27
            simp only [Option.some.injEq, Prod.mk.injEq] at H
            obtain ⟨rfl, rfl⟩ := H
            obtain ⟨Ao33, co33, eo33⟩ := Kd.V_slice HO_9.out
            subst eo33
            obtain ⟨Ao34, co34, eo34⟩ := Kd.V_slice HO_7.out
            subst eo34
            go_wp2_with (first | ((with_reducible refine gate_callee (f := 28) rfl ?_); refine goesL_ (some 62) rfl rfl Try.func28 (by kernel_rfl) rfl #[.slice Ao34 x7_1.length co34, .slice Ao11 y474.length co11] rfl (by (try simp only [zl1, zl2, zl3]); first | done | rfl | (simp only [List.length_drop, List.length_take]; rfl)) ?_; (with_reducible refine (nat_Cmp.calls k1 _ _ x7_1 _ _ y474 t497 _ ?side1 ?side2 ?side3 ?side4 A26.out).mono ?_); (case side1 => repeat (first | exact (Kd.V_reads' HO_7.out).2.2 | (with_reducible refine zc1 ?_ _) | (with_reducible refine zc2 ?_ _) | (with_reducible refine zc3 ?_))); (case side2 => exact (Kd.V_reads' HO_7.out).2.1); (case side3 => repeat (first | exact (Kd.R_reads' HO_6.out).2.2 | (with_reducible refine zc1 ?_ _) | (with_reducible refine zc2 ?_ _) | (with_reducible refine zc3 ?_))); (case side4 => exact (Kd.R_reads' HO_6.out).2.1); rintro e w' ⟨rfl, ⟨nd, rfl⟩⟩; refine ⟨_, rfl, ?_⟩))
            go_ret2
            exact ⟨_, by first | rfl | (simp [errW_none, errW_some] <;> rfl) | (simp [*, errW_none, errW_some] <;> rfl), Kd.V_mono ((Kd.V_nil _ _ _ _ _)) (fun k_ hk => by first | exact ⟨(.inr (hk.1)), hk.2⟩ | exact (.inr (hk))), by repeat (first | (with_reducible first | exact HB.out | apply zb1 | apply zb2 | apply zb3) | exact HB.out)⟩

/-! ### mod_Add: function 17 -/
def mod_Add.f (k : Nat) (l0 : List Int) (l1 : List Int) (l2 : List Int) : Option (List Int × Bool) := (nat_Add.f k l0 l1).bind fun t634 => ((mod_rest.f k t634 l2).bind fun bt637 => (some (bt637.1, bt637.2)))
set_option maxHeartbeats 8000000 in
set_option maxRecDepth 100000 in
theorem mod_Add.calls (k : Nat) (A0 : Option Addr) (c0 : Nat) (l0 : List Int) (A1 : Option Addr) (c1 : Nat) (l1 : List Int) (A2 : Option Addr) (c2 : Nat) (l2 : List Int) (r1 : List Int) (r2 : Bool) (w : World) (hr0 : Kd.C (Kd.int .u32) w A0 l0.length l0) (hc0 : l0.length ≤ c0) (hr1 : Kd.C (Kd.int .u32) w A1 l1.length l1) (hc1 : l1.length ≤ c1) (hr2 : Kd.C (Kd.int .u32) w A2 l2.length l2) (hc2 : l2.length ≤ c2) (h : mod_Add.f k l0 l1 l2 = some (r1, r2)) :
    Calls Try.prog 17 #[.slice A0 l0.length c0, .slice A1 l1.length c1, .slice A2 l2.length c2] w fun e w' => ∃ v0_ : Value, e = .returned (.tuple #[v0_, .bool r2]) ∧ Kd.V (Kd.int .u32) 31 w' w.heap.size (fun k_ => (w.heap.size ≤ k_)) v0_ r1 ∧ Below w.heap.size w w' := by
  have HR0 := zm hr0
  have HC0 := zm hc0
  clear hr0 hc0
  have HR1 := zm hr1
  have HC1 := zm hc1
  clear hr1 hc1
  have HR2 := zm hr2
  have HC2 := zm hc2
  clear hr2 hc2
  have HB := zm (Below.refl w.heap.size w)
  have H : ((nat_Add.f k l0 l1).bind fun t634 => ((mod_rest.f k t634 l2).bind fun bt637 => (some (bt637.1, bt637.2)))) = some (r1, r2) := h
  clear h
  replace H := Option.bind_eq_some_iff.mp H
  obtain ⟨t634, A40, H⟩ := H
  replace H : ((mod_rest.f k t634 l2).bind fun bt637 => (some (bt637.1, bt637.2))) = some (r1, r2) := H
  have A4 := zm A40
  clear A40
  replace H := Option.bind_eq_some_iff.mp H
  obtain ⟨⟨t637, t640⟩, A50, H⟩ := H
  replace H : (some (t637, t640)) = some (r1, r2) := H
  have A5 := zm A50
  clear A50
  simp only [Option.some.injEq, Prod.mk.injEq] at H
  obtain ⟨rfl, rfl⟩ := H
  go_enter Try.func17, Try.ntmps17
  go_wp2_with (first | ((with_reducible refine gate_callee (f := 32) rfl ?_); refine goesL_ (some 10) rfl rfl Try.func32 (by kernel_rfl) rfl #[.slice A0 l0.length c0, .slice A1 l1.length c1] rfl (by (try simp only [zl1, zl2, zl3]); first | done | rfl | (simp only [List.length_drop, List.length_take]; rfl)) ?_; (with_reducible refine (nat_Add.calls k _ _ l0 _ _ l1 t634 _ ?side1 ?side2 ?side3 ?side4 A4.out).mono ?_); (case side1 => repeat (first | exact HR0.out | (with_reducible refine zc1 ?_ _) | (with_reducible refine zc2 ?_ _) | (with_reducible refine zc3 ?_))); (case side2 => exact HC0.out); (case side3 => repeat (first | exact HR1.out | (with_reducible refine zc1 ?_ _) | (with_reducible refine zc2 ?_ _) | (with_reducible refine zc3 ?_))); (case side4 => exact HC1.out); rintro e w6 ⟨v635, rfl, ho0, hb⟩; refine ⟨_, rfl, ?_⟩; have n0_ := zm (Kd.V_lower (Kd.V_mono (ok' := fun k_ => (w.heap.size ≤ k_)) ho0 (fun k_ hk_ => (Nat.le_trans (below_size (by repeat (first | (with_reducible first | exact HB.out | apply zb1 | apply zb2 | apply zb3) | exact HB.out))) hk_))) (below_size (by repeat (first | (with_reducible first | exact HB.out | apply zb1 | apply zb2 | apply zb3) | exact HB.out)))); have n1_ := zm (below_step (by repeat (first | (with_reducible first | exact HB.out | apply zb1 | apply zb2 | apply zb3) | exact HB.out)) hb); clear HB; have HO636 := n0_; have HB := n1_; clear n0_ n1_; (try clear hb); (try clear hb2); (try clear hk); (try clear hi); (try clear ho0); obtain ⟨Ao7, co7, eo7⟩ := Kd.V_slice HO636.out; subst eo7) | ((with_reducible refine gate_callee (f := 25) rfl ?_); refine goesL_ (some 12) rfl rfl Try.func25 (by kernel_rfl) rfl #[.slice Ao7 t634.length co7, .slice A2 l2.length c2] rfl (by (try simp only [zl1, zl2, zl3]); first | done | rfl | (simp only [List.length_drop, List.length_take]; rfl)) ?_; (with_reducible refine (mod_rest.calls k _ _ t634 _ _ l2 t637 t640 _ ?side1 ?side2 ?side3 ?side4 A5.out).mono ?_); (case side1 => repeat (first | exact (Kd.V_reads' HO636.out).2.2 | (with_reducible refine zc1 ?_ _) | (with_reducible refine zc2 ?_ _) | (with_reducible refine zc3 ?_))); (case side2 => exact (Kd.V_reads' HO636.out).2.1); (case side3 => repeat (first | exact (Kd.C_below HR2.out HB.out) | (with_reducible refine zc1 ?_ _) | (with_reducible refine zc2 ?_ _) | (with_reducible refine zc3 ?_))); (case side4 => exact HC2.out); rintro e w8 ⟨v638, rfl, ho0, hb⟩; refine ⟨_, rfl, ?_⟩; have n0_ := zm (Kd.V_below (by (with_reducible repeat (first | apply zv1 | apply zv2 | apply zv3)); exact HO636.out) hb); have n1_ := zm (Kd.V_lower (Kd.V_mono (ok' := fun k_ => (w.heap.size ≤ k_)) ho0 (fun k_ hk_ => (Nat.le_trans (below_size (by repeat (first | (with_reducible first | exact HB.out | apply zb1 | apply zb2 | apply zb3) | exact HB.out))) hk_))) (below_size (by repeat (first | (with_reducible first | exact HB.out | apply zb1 | apply zb2 | apply zb3) | exact HB.out)))); have n2_ := zm (below_step (by repeat (first | (with_reducible first | exact HB.out | apply zb1 | apply zb2 | apply zb3) | exact HB.out)) hb); clear HO636; clear HB; have HO636 := n0_; have HO639 := n1_; have HB := n2_; clear n0_ n1_ n2_; (try clear hb); (try clear hb2); (try clear hk); (try clear hi); (try clear ho0)))
  go_ret2
  exact ⟨_, by first | rfl | (simp [errW_none, errW_some] <;> rfl) | (simp [*, errW_none, errW_some] <;> rfl), by (with_reducible repeat (first | apply zv1 | apply zv2 | apply zv3)); exact HO639.out, by repeat (first | (with_reducible first | exact HB.out | apply zb1 | apply zb2 | apply zb3) | exact HB.out)⟩

end Go.Proofs.Ytgdkbfipjeinjaa.A
