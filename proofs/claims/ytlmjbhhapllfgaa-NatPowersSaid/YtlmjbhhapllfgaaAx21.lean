-- a text of this claim
import Derived.Test.YtlmjbhhapllfgaaAx0
import Derived.Test.YtlmjbhhapllfgaaAx2
import Derived.Test.YtlmjbhhapllfgaaAx3
import Derived.Test.YtlmjbhhapllfgaaAx4
import Derived.Test.YtlmjbhhapllfgaaAx9
import Derived.Test.YtlmjbhhapllfgaaAx13
import Derived.Test.YtlmjbhhapllfgaaAx15
import Derived.Test.YtlmjbhhapllfgaaAx20
namespace Go.Proofs.Ytlmjbhhapllfgaa.A
open Go.RowKit Go.Proofs.YtlmjbhhapllfgaaW.PrintWords Go.Proofs.YtlmjbhhapllfgaaW.PrintLast Go.Proofs.YtlmjbhhapllfgaaW.PrintMore
attribute [local go_sem] max2_int min2_int max_two min_two max_three min_three max_four min_four   -- for this text's walks alone
set_option linter.unusedVariables false
set_option linter.unusedSimpArgs false

/-! ### apostillelaw7_NatPowers: function 7 -/
def apostillelaw7_NatPowers.j0 : Nat → Int → Int → Bool → Option (Bool)
  | 0, _, _, _ => none
  | k + 1, x0, x1, x30 => if x30 = true then (some true) else ((apostillelaw7_power.f x0).bind fun t498 => ((apostillelaw7_power.f x1).bind fun t501 => ((nat_Div.f k t498 t501).bind fun bt504 => ((nat_Sub.f k t498 (([1] : List Int))).bind fun bt514 => ((nat_Bytes.f k t498 (wrap64 (Int.tdiv x0 8))).bind fun bt518 => ((nat_Bytes.f k t498 (wrap64 ((wrap64 (Int.tdiv x0 8)) + 1))).bind fun bt522 => ((nat_Bits.f t498).bind fun t526 => (if t526 = (wrap64 (x0 + 1)) then (if bt504.2.2 = true then ((apostillelaw7_power.f (wrap64 (x0 - x1))).bind fun t527 => ((apostillelaw7_same.f k bt504.1 t527).bind fun t530 => (if t530 = true then (if (bt504.2.1.length : Int) = 0 then (if bt514.2 = true then ((nat_Bits.f bt514.1).bind fun t531 => (if t531 = x0 then (if bt518.2 = true then (some false) else (if bt522.2 = true then (if (bt522.1.length : Int) > 0 then (if 0 < (bt522.1.length : Int) then (if 0 ≤ (IntKind.u64.wrap (Int.tmod x0 8)) then (if (rd bt522.1 0) = (shl .u8 1 (IntKind.u64.wrap (Int.tmod x0 8))) then ((nat_Mul.f k bt504.1 t501).bind fun t533 => ((apostillelaw7_same.f k t533 t498).bind fun t536 => (if t536 = true then ((apostilleref7_Is.f t498).bind fun t537 => (if t537 = true then ((apostillelaw7_known.f k).bind fun t538 => (some t538)) else (some false))) else (some false)))) else (some false)) else (none)) else (none)) else (some false)) else (some false))) else (some false))) else (some false)) else (some false)) else (some false)))) else (some false)) else (some false)))))))))
def apostillelaw7_NatPowers.f (k : Nat) (a0 : Int) (a1 : Int) : Option (Bool) := if a0 < 0 then (apostillelaw7_NatPowers.j0 k a0 a1 true) else (if a0 > 2000 then (apostillelaw7_NatPowers.j0 k a0 a1 true) else (if a1 < 0 then (apostillelaw7_NatPowers.j0 k a0 a1 true) else (apostillelaw7_NatPowers.j0 k a0 a1 (decide (a1 > a0)))))
theorem apostillelaw7_NatPowers.mono_l : ∀ k, (∀ y0 y1 y2, LeO (apostillelaw7_NatPowers.j0 k y0 y1 y2) (apostillelaw7_NatPowers.j0 (k + 1) y0 y1 y2))
  | 0 => fun _ _ _ r h => by simp [apostillelaw7_NatPowers.j0] at h
  | k + 1 => by
    have ih0 := apostillelaw7_NatPowers.mono_l k
    · intro y0 y1 y2
      unfold apostillelaw7_NatPowers.j0
      repeat' first
      | (with_reducible exact ih0 _ _ _)
      | (with_reducible exact apostillelaw7_known.mono _)
      | (with_reducible exact apostillelaw7_same.mono _ _ _)
      | (with_reducible exact nat_Bytes.mono _ _ _)
      | (with_reducible exact nat_Div.mono _ _ _)
      | (with_reducible exact nat_Mul.mono _ _ _)
      | (with_reducible exact nat_Sub.mono _ _ _)
      | (with_reducible exact LeO.refl _)
      | (with_reducible exact LeO.none _)
      | (with_reducible refine LeO.ite ?_ ?_)
      | (with_reducible refine LeO.bind ?_ (fun _ => ?_))
      | exact ih0 _ _ _
      | exact apostillelaw7_known.mono _
      | exact apostillelaw7_same.mono _ _ _
      | exact nat_Bytes.mono _ _ _
      | exact nat_Div.mono _ _ _
      | exact nat_Mul.mono _ _ _
      | exact nat_Sub.mono _ _ _
      | exact LeO.none _
      | refine LeO.ite ?_ ?_
      | refine LeO.bind ?_ (fun _ => ?_)
theorem apostillelaw7_NatPowers.mono : ∀ a0 a1 k, LeO (apostillelaw7_NatPowers.f k a0 a1) (apostillelaw7_NatPowers.f (k + 1) a0 a1) := by
  intro a0 a1 k
  have ih0 := apostillelaw7_NatPowers.mono_l k
  unfold apostillelaw7_NatPowers.f
  repeat' first
      | (with_reducible exact ih0 _ _ _)
      | (with_reducible exact apostillelaw7_known.mono _)
      | (with_reducible exact apostillelaw7_same.mono _ _ _)
      | (with_reducible exact nat_Bytes.mono _ _ _)
      | (with_reducible exact nat_Div.mono _ _ _)
      | (with_reducible exact nat_Mul.mono _ _ _)
      | (with_reducible exact nat_Sub.mono _ _ _)
      | (with_reducible exact LeO.refl _)
      | (with_reducible exact LeO.none _)
      | (with_reducible refine LeO.ite ?_ ?_)
      | (with_reducible refine LeO.bind ?_ (fun _ => ?_))
      | exact ih0 _ _ _
      | exact apostillelaw7_known.mono _
      | exact apostillelaw7_same.mono _ _ _
      | exact nat_Bytes.mono _ _ _
      | exact nat_Div.mono _ _ _
      | exact nat_Mul.mono _ _ _
      | exact nat_Sub.mono _ _ _
      | exact LeO.none _
      | refine LeO.ite ?_ ?_
      | refine LeO.bind ?_ (fun _ => ?_)
set_option maxHeartbeats 8000000 in
set_option maxRecDepth 100000 in
theorem apostillelaw7_NatPowers.calls (k : Nat) (a0 : Int) (a1 : Int) (r : Bool) (w : World) (hrT : r = true) (h : apostillelaw7_NatPowers.f k a0 a1 = some r) :
    Calls Try.prog 7 #[.int .i64 a0, .int .i64 a1] w fun e w' => e = .returned (.bool r) ∧ Below w.heap.size w w' := by
  have HB := Aside0.mk (Below.refl w.heap.size w)
  have H : (if a0 < 0 then (apostillelaw7_NatPowers.j0 k a0 a1 true) else (if a0 > 2000 then (apostillelaw7_NatPowers.j0 k a0 a1 true) else (if a1 < 0 then (apostillelaw7_NatPowers.j0 k a0 a1 true) else (apostillelaw7_NatPowers.j0 k a0 a1 (decide (a1 > a0)))))) = some r := h
  clear h
  have HC3 := Aside0.mk H
  clear H
  go_enter Try.func7, Try.ntmps7
  go_upto_region 1 with (fail)
  go_cut [30] (fun v30 wc => ∃ (kq : Nat) (x30_2 : Bool), v30 = .bool x30_2 ∧ Aside0 (apostillelaw7_NatPowers.j0 kq a0 a1 x30_2 = some r) ∧ Aside0 (kq ≤ k) ∧ Aside0 (Below w.heap.size w wc))
  case first =>
    have H := HC3.out
    clear HC3
    by_cases c4 : a0 < 0
    · rw [if_pos c4] at H
      have c4b0 : decide (a0 < 0) = true := decide_eq_true c4
      clear c4
      (first | rw [c4b0] | (simp only [i64_w, i32_w]; rw [c4b0]) | skip)
      have H' := Aside0.mk H
      clear H
      go_wp2
      go_meet
      case rel => exact ⟨_, (true), (by first | rfl | (simp; done) | (simp [*]; done)), H', ⟨by first | omega | exact Nat.le_refl _⟩, ⟨by repeat (first | (with_reducible first | exact HB.out | apply below_alloc | apply pw_below_drewN | apply below_drew1) | exact HB.out)⟩⟩
    · rw [if_neg c4] at H
      have c4b0 : decide (a0 < 0) = false := decide_eq_false c4
      clear c4
      (first | rw [c4b0] | (simp only [i64_w, i32_w]; rw [c4b0]) | skip)
      by_cases c5 : a0 > 2000
      · rw [if_pos c5] at H
        have c5b0 : decide (2000 < a0) = true := decide_eq_true c5
        clear c5
        have H' := Aside0.mk H
        clear H
        go_wp2
        go_meet
        case rel => exact ⟨_, (true), (by first | rfl | (simp; done) | (simp [*]; done)), H', ⟨by first | omega | exact Nat.le_refl _⟩, ⟨by repeat (first | (with_reducible first | exact HB.out | apply below_alloc | apply pw_below_drewN | apply below_drew1) | exact HB.out)⟩⟩
      · rw [if_neg c5] at H
        have c5b0 : decide (2000 < a0) = false := decide_eq_false c5
        clear c5
        by_cases c6 : a1 < 0
        · rw [if_pos c6] at H
          have c6b0 : decide (a1 < 0) = true := decide_eq_true c6
          clear c6
          have H' := Aside0.mk H
          clear H
          go_wp2
          go_meet
          case rel => exact ⟨_, (true), (by first | rfl | (simp; done) | (simp [*]; done)), H', ⟨by first | omega | exact Nat.le_refl _⟩, ⟨by repeat (first | (with_reducible first | exact HB.out | apply below_alloc | apply pw_below_drewN | apply below_drew1) | exact HB.out)⟩⟩
        · rw [if_neg c6] at H
          have c6b0 : decide (a1 < 0) = false := decide_eq_false c6
          clear c6
          have H' := Aside0.mk H
          clear H
          go_wp2
          go_meet
          case rel => exact ⟨_, (decide (a1 > a0)), (by first | rfl | (simp; done) | (simp [*]; done)), H', ⟨by first | omega | exact Nat.le_refl _⟩, ⟨by repeat (first | (with_reducible first | exact HB.out | apply below_alloc | apply pw_below_drewN | apply below_drew1) | exact HB.out)⟩⟩
  case rest =>
    clear HC3
    try clear p2
    try clear c4
    try clear c4b0
    try clear c5
    try clear c5b0
    try clear c6
    try clear c6b0
    obtain ⟨kq, x30_2, rfl, HA, HJ2, HB⟩ := hcut
    cases kq with
    | zero => exact absurd HA.out (by simp [apostillelaw7_NatPowers.j0])
    | succ kj2 =>
      have H := HA.out
      clear HA
      simp only [apostillelaw7_NatPowers.j0] at H
      by_cases c7 : x30_2 = true
      · subst c7
        have H1 : (some true) = some r := by rw [if_pos rfl] at H; exact H
        clear H
        have H := H1
        clear H1
        obtain rfl := Option.some.inj H
        go_wp2
        go_ret
        exact ⟨by first | rfl | (simp [errW_none, errW_some] <;> rfl) | (simp [*, errW_none, errW_some] <;> rfl), by repeat (first | (with_reducible first | exact HB.out | apply below_alloc | apply pw_below_drewN | apply below_drew1) | exact HB.out)⟩
      · replace c7 := Bool.eq_false_iff.mpr c7
        subst c7
        have H1 : ((apostillelaw7_power.f a0).bind fun t498 => ((apostillelaw7_power.f a1).bind fun t501 => ((nat_Div.f kj2 t498 t501).bind fun bt504 => ((nat_Sub.f kj2 t498 (([1] : List Int))).bind fun bt514 => ((nat_Bytes.f kj2 t498 (wrap64 (Int.tdiv a0 8))).bind fun bt518 => ((nat_Bytes.f kj2 t498 (wrap64 ((wrap64 (Int.tdiv a0 8)) + 1))).bind fun bt522 => ((nat_Bits.f t498).bind fun t526 => (if t526 = (wrap64 (a0 + 1)) then (if bt504.2.2 = true then ((apostillelaw7_power.f (wrap64 (a0 - a1))).bind fun t527 => ((apostillelaw7_same.f kj2 bt504.1 t527).bind fun t530 => (if t530 = true then (if (bt504.2.1.length : Int) = 0 then (if bt514.2 = true then ((nat_Bits.f bt514.1).bind fun t531 => (if t531 = a0 then (if bt518.2 = true then (some false) else (if bt522.2 = true then (if (bt522.1.length : Int) > 0 then (if 0 < (bt522.1.length : Int) then (if 0 ≤ (IntKind.u64.wrap (Int.tmod a0 8)) then (if (rd bt522.1 0) = (shl .u8 1 (IntKind.u64.wrap (Int.tmod a0 8))) then ((nat_Mul.f kj2 bt504.1 t501).bind fun t533 => ((apostillelaw7_same.f kj2 t533 t498).bind fun t536 => (if t536 = true then ((apostilleref7_Is.f t498).bind fun t537 => (if t537 = true then ((apostillelaw7_known.f kj2).bind fun t538 => (some t538)) else (some false))) else (some false)))) else (some false)) else (none)) else (none)) else (some false)) else (some false))) else (some false))) else (some false)) else (some false)) else (some false)))) else (some false)) else (some false))))))))) = some r := by rw [if_neg (show ¬ (false = true) by decide)] at H; exact H
        clear H
        have H := H1
        clear H1
        replace H := Option.bind_eq_some_iff.mp H
        obtain ⟨t498, A80, H⟩ := H
        replace H : ((apostillelaw7_power.f a1).bind fun t501 => ((nat_Div.f kj2 t498 t501).bind fun bt504 => ((nat_Sub.f kj2 t498 (([1] : List Int))).bind fun bt514 => ((nat_Bytes.f kj2 t498 (wrap64 (Int.tdiv a0 8))).bind fun bt518 => ((nat_Bytes.f kj2 t498 (wrap64 ((wrap64 (Int.tdiv a0 8)) + 1))).bind fun bt522 => ((nat_Bits.f t498).bind fun t526 => (if t526 = (wrap64 (a0 + 1)) then (if bt504.2.2 = true then ((apostillelaw7_power.f (wrap64 (a0 - a1))).bind fun t527 => ((apostillelaw7_same.f kj2 bt504.1 t527).bind fun t530 => (if t530 = true then (if (bt504.2.1.length : Int) = 0 then (if bt514.2 = true then ((nat_Bits.f bt514.1).bind fun t531 => (if t531 = a0 then (if bt518.2 = true then (some false) else (if bt522.2 = true then (if (bt522.1.length : Int) > 0 then (if 0 < (bt522.1.length : Int) then (if 0 ≤ (IntKind.u64.wrap (Int.tmod a0 8)) then (if (rd bt522.1 0) = (shl .u8 1 (IntKind.u64.wrap (Int.tmod a0 8))) then ((nat_Mul.f kj2 bt504.1 t501).bind fun t533 => ((apostillelaw7_same.f kj2 t533 t498).bind fun t536 => (if t536 = true then ((apostilleref7_Is.f t498).bind fun t537 => (if t537 = true then ((apostillelaw7_known.f kj2).bind fun t538 => (some t538)) else (some false))) else (some false)))) else (some false)) else (none)) else (none)) else (some false)) else (some false))) else (some false))) else (some false)) else (some false)) else (some false)))) else (some false)) else (some false)))))))) = some r := H
        have A8 := Aside0.mk A80
        clear A80
        replace H := Option.bind_eq_some_iff.mp H
        obtain ⟨t501, A90, H⟩ := H
        replace H : ((nat_Div.f kj2 t498 t501).bind fun bt504 => ((nat_Sub.f kj2 t498 (([1] : List Int))).bind fun bt514 => ((nat_Bytes.f kj2 t498 (wrap64 (Int.tdiv a0 8))).bind fun bt518 => ((nat_Bytes.f kj2 t498 (wrap64 ((wrap64 (Int.tdiv a0 8)) + 1))).bind fun bt522 => ((nat_Bits.f t498).bind fun t526 => (if t526 = (wrap64 (a0 + 1)) then (if bt504.2.2 = true then ((apostillelaw7_power.f (wrap64 (a0 - a1))).bind fun t527 => ((apostillelaw7_same.f kj2 bt504.1 t527).bind fun t530 => (if t530 = true then (if (bt504.2.1.length : Int) = 0 then (if bt514.2 = true then ((nat_Bits.f bt514.1).bind fun t531 => (if t531 = a0 then (if bt518.2 = true then (some false) else (if bt522.2 = true then (if (bt522.1.length : Int) > 0 then (if 0 < (bt522.1.length : Int) then (if 0 ≤ (IntKind.u64.wrap (Int.tmod a0 8)) then (if (rd bt522.1 0) = (shl .u8 1 (IntKind.u64.wrap (Int.tmod a0 8))) then ((nat_Mul.f kj2 bt504.1 t501).bind fun t533 => ((apostillelaw7_same.f kj2 t533 t498).bind fun t536 => (if t536 = true then ((apostilleref7_Is.f t498).bind fun t537 => (if t537 = true then ((apostillelaw7_known.f kj2).bind fun t538 => (some t538)) else (some false))) else (some false)))) else (some false)) else (none)) else (none)) else (some false)) else (some false))) else (some false))) else (some false)) else (some false)) else (some false)))) else (some false)) else (some false))))))) = some r := H
        have A9 := Aside0.mk A90
        clear A90
        replace H := Option.bind_eq_some_iff.mp H
        obtain ⟨⟨t504, t507, t510⟩, A100, H⟩ := H
        replace H : ((nat_Sub.f kj2 t498 (([1] : List Int))).bind fun bt514 => ((nat_Bytes.f kj2 t498 (wrap64 (Int.tdiv a0 8))).bind fun bt518 => ((nat_Bytes.f kj2 t498 (wrap64 ((wrap64 (Int.tdiv a0 8)) + 1))).bind fun bt522 => ((nat_Bits.f t498).bind fun t526 => (if t526 = (wrap64 (a0 + 1)) then (if t510 = true then ((apostillelaw7_power.f (wrap64 (a0 - a1))).bind fun t527 => ((apostillelaw7_same.f kj2 t504 t527).bind fun t530 => (if t530 = true then (if (t507.length : Int) = 0 then (if bt514.2 = true then ((nat_Bits.f bt514.1).bind fun t531 => (if t531 = a0 then (if bt518.2 = true then (some false) else (if bt522.2 = true then (if (bt522.1.length : Int) > 0 then (if 0 < (bt522.1.length : Int) then (if 0 ≤ (IntKind.u64.wrap (Int.tmod a0 8)) then (if (rd bt522.1 0) = (shl .u8 1 (IntKind.u64.wrap (Int.tmod a0 8))) then ((nat_Mul.f kj2 t504 t501).bind fun t533 => ((apostillelaw7_same.f kj2 t533 t498).bind fun t536 => (if t536 = true then ((apostilleref7_Is.f t498).bind fun t537 => (if t537 = true then ((apostillelaw7_known.f kj2).bind fun t538 => (some t538)) else (some false))) else (some false)))) else (some false)) else (none)) else (none)) else (some false)) else (some false))) else (some false))) else (some false)) else (some false)) else (some false)))) else (some false)) else (some false)))))) = some r := H
        have A10 := Aside0.mk A100
        clear A100
        obtain ⟨y511, hy511⟩ : ∃ y_ : List Int, y_ = (([1] : List Int)) := ⟨_, rfl⟩
        replace H : ((nat_Sub.f kj2 t498 y511).bind fun bt514 => ((nat_Bytes.f kj2 t498 (wrap64 (Int.tdiv a0 8))).bind fun bt518 => ((nat_Bytes.f kj2 t498 (wrap64 ((wrap64 (Int.tdiv a0 8)) + 1))).bind fun bt522 => ((nat_Bits.f t498).bind fun t526 => (if t526 = (wrap64 (a0 + 1)) then (if t510 = true then ((apostillelaw7_power.f (wrap64 (a0 - a1))).bind fun t527 => ((apostillelaw7_same.f kj2 t504 t527).bind fun t530 => (if t530 = true then (if (t507.length : Int) = 0 then (if bt514.2 = true then ((nat_Bits.f bt514.1).bind fun t531 => (if t531 = a0 then (if bt518.2 = true then (some false) else (if bt522.2 = true then (if (bt522.1.length : Int) > 0 then (if 0 < (bt522.1.length : Int) then (if 0 ≤ (IntKind.u64.wrap (Int.tmod a0 8)) then (if (rd bt522.1 0) = (shl .u8 1 (IntKind.u64.wrap (Int.tmod a0 8))) then ((nat_Mul.f kj2 t504 t501).bind fun t533 => ((apostillelaw7_same.f kj2 t533 t498).bind fun t536 => (if t536 = true then ((apostilleref7_Is.f t498).bind fun t537 => (if t537 = true then ((apostillelaw7_known.f kj2).bind fun t538 => (some t538)) else (some false))) else (some false)))) else (some false)) else (none)) else (none)) else (some false)) else (some false))) else (some false))) else (some false)) else (some false)) else (some false)))) else (some false)) else (some false)))))) = some r := by first | (rw [hy511]; with_reducible exact H) | (have H2_ := (Option.bind_some _ _).symm.trans H; rw [hy511]; with_reducible exact H2_) | (have H2_ := (Option.bind_some _ _).symm.trans H; with_reducible exact H2_) | with_reducible exact H | (rw [hy511]; exact H) | exact H
        have Ny511 := Aside0.mk hy511
        clear hy511
        replace H := Option.bind_eq_some_iff.mp H
        obtain ⟨⟨t514, t517⟩, A110, H⟩ := H
        replace H : ((nat_Bytes.f kj2 t498 (wrap64 (Int.tdiv a0 8))).bind fun bt518 => ((nat_Bytes.f kj2 t498 (wrap64 ((wrap64 (Int.tdiv a0 8)) + 1))).bind fun bt522 => ((nat_Bits.f t498).bind fun t526 => (if t526 = (wrap64 (a0 + 1)) then (if t510 = true then ((apostillelaw7_power.f (wrap64 (a0 - a1))).bind fun t527 => ((apostillelaw7_same.f kj2 t504 t527).bind fun t530 => (if t530 = true then (if (t507.length : Int) = 0 then (if t517 = true then ((nat_Bits.f t514).bind fun t531 => (if t531 = a0 then (if bt518.2 = true then (some false) else (if bt522.2 = true then (if (bt522.1.length : Int) > 0 then (if 0 < (bt522.1.length : Int) then (if 0 ≤ (IntKind.u64.wrap (Int.tmod a0 8)) then (if (rd bt522.1 0) = (shl .u8 1 (IntKind.u64.wrap (Int.tmod a0 8))) then ((nat_Mul.f kj2 t504 t501).bind fun t533 => ((apostillelaw7_same.f kj2 t533 t498).bind fun t536 => (if t536 = true then ((apostilleref7_Is.f t498).bind fun t537 => (if t537 = true then ((apostillelaw7_known.f kj2).bind fun t538 => (some t538)) else (some false))) else (some false)))) else (some false)) else (none)) else (none)) else (some false)) else (some false))) else (some false))) else (some false)) else (some false)) else (some false)))) else (some false)) else (some false))))) = some r := H
        have A11 := Aside0.mk A110
        clear A110
        replace H := Option.bind_eq_some_iff.mp H
        obtain ⟨⟨t518, t519⟩, A120, H⟩ := H
        replace H : ((nat_Bytes.f kj2 t498 (wrap64 ((wrap64 (Int.tdiv a0 8)) + 1))).bind fun bt522 => ((nat_Bits.f t498).bind fun t526 => (if t526 = (wrap64 (a0 + 1)) then (if t510 = true then ((apostillelaw7_power.f (wrap64 (a0 - a1))).bind fun t527 => ((apostillelaw7_same.f kj2 t504 t527).bind fun t530 => (if t530 = true then (if (t507.length : Int) = 0 then (if t517 = true then ((nat_Bits.f t514).bind fun t531 => (if t531 = a0 then (if t519 = true then (some false) else (if bt522.2 = true then (if (bt522.1.length : Int) > 0 then (if 0 < (bt522.1.length : Int) then (if 0 ≤ (IntKind.u64.wrap (Int.tmod a0 8)) then (if (rd bt522.1 0) = (shl .u8 1 (IntKind.u64.wrap (Int.tmod a0 8))) then ((nat_Mul.f kj2 t504 t501).bind fun t533 => ((apostillelaw7_same.f kj2 t533 t498).bind fun t536 => (if t536 = true then ((apostilleref7_Is.f t498).bind fun t537 => (if t537 = true then ((apostillelaw7_known.f kj2).bind fun t538 => (some t538)) else (some false))) else (some false)))) else (some false)) else (none)) else (none)) else (some false)) else (some false))) else (some false))) else (some false)) else (some false)) else (some false)))) else (some false)) else (some false)))) = some r := H
        have A12 := Aside0.mk A120
        clear A120
        replace H := Option.bind_eq_some_iff.mp H
        obtain ⟨⟨t522, t523⟩, A130, H⟩ := H
        replace H : ((nat_Bits.f t498).bind fun t526 => (if t526 = (wrap64 (a0 + 1)) then (if t510 = true then ((apostillelaw7_power.f (wrap64 (a0 - a1))).bind fun t527 => ((apostillelaw7_same.f kj2 t504 t527).bind fun t530 => (if t530 = true then (if (t507.length : Int) = 0 then (if t517 = true then ((nat_Bits.f t514).bind fun t531 => (if t531 = a0 then (if t519 = true then (some false) else (if t523 = true then (if (t522.length : Int) > 0 then (if 0 < (t522.length : Int) then (if 0 ≤ (IntKind.u64.wrap (Int.tmod a0 8)) then (if (rd t522 0) = (shl .u8 1 (IntKind.u64.wrap (Int.tmod a0 8))) then ((nat_Mul.f kj2 t504 t501).bind fun t533 => ((apostillelaw7_same.f kj2 t533 t498).bind fun t536 => (if t536 = true then ((apostilleref7_Is.f t498).bind fun t537 => (if t537 = true then ((apostillelaw7_known.f kj2).bind fun t538 => (some t538)) else (some false))) else (some false)))) else (some false)) else (none)) else (none)) else (some false)) else (some false))) else (some false))) else (some false)) else (some false)) else (some false)))) else (some false)) else (some false))) = some r := H
        have A13 := Aside0.mk A130
        clear A130
        replace H := Option.bind_eq_some_iff.mp H
        obtain ⟨t526, A140, H⟩ := H
        replace H : (if t526 = (wrap64 (a0 + 1)) then (if t510 = true then ((apostillelaw7_power.f (wrap64 (a0 - a1))).bind fun t527 => ((apostillelaw7_same.f kj2 t504 t527).bind fun t530 => (if t530 = true then (if (t507.length : Int) = 0 then (if t517 = true then ((nat_Bits.f t514).bind fun t531 => (if t531 = a0 then (if t519 = true then (some false) else (if t523 = true then (if (t522.length : Int) > 0 then (if 0 < (t522.length : Int) then (if 0 ≤ (IntKind.u64.wrap (Int.tmod a0 8)) then (if (rd t522 0) = (shl .u8 1 (IntKind.u64.wrap (Int.tmod a0 8))) then ((nat_Mul.f kj2 t504 t501).bind fun t533 => ((apostillelaw7_same.f kj2 t533 t498).bind fun t536 => (if t536 = true then ((apostilleref7_Is.f t498).bind fun t537 => (if t537 = true then ((apostillelaw7_known.f kj2).bind fun t538 => (some t538)) else (some false))) else (some false)))) else (some false)) else (none)) else (none)) else (some false)) else (some false))) else (some false))) else (some false)) else (some false)) else (some false)))) else (some false)) else (some false)) = some r := H
        have A14 := Aside0.mk A140
        clear A140
        by_cases c15 : t526 = (wrap64 (a0 + 1))
        · rw [if_pos c15] at H
          have c15b0 : (t526 == (wrap64 (a0 + 1))) = true := beq_iff_eq.mpr c15
          have c15b1 : (t526 != (wrap64 (a0 + 1))) = false := bne_eq_false_iff_eq.mpr c15
          clear c15
          by_cases c16 : t510 = true
          · subst c16
            have H1 : ((apostillelaw7_power.f (wrap64 (a0 - a1))).bind fun t527 => ((apostillelaw7_same.f kj2 t504 t527).bind fun t530 => (if t530 = true then (if (t507.length : Int) = 0 then (if t517 = true then ((nat_Bits.f t514).bind fun t531 => (if t531 = a0 then (if t519 = true then (some false) else (if t523 = true then (if (t522.length : Int) > 0 then (if 0 < (t522.length : Int) then (if 0 ≤ (IntKind.u64.wrap (Int.tmod a0 8)) then (if (rd t522 0) = (shl .u8 1 (IntKind.u64.wrap (Int.tmod a0 8))) then ((nat_Mul.f kj2 t504 t501).bind fun t533 => ((apostillelaw7_same.f kj2 t533 t498).bind fun t536 => (if t536 = true then ((apostilleref7_Is.f t498).bind fun t537 => (if t537 = true then ((apostillelaw7_known.f kj2).bind fun t538 => (some t538)) else (some false))) else (some false)))) else (some false)) else (none)) else (none)) else (some false)) else (some false))) else (some false))) else (some false)) else (some false)) else (some false)))) = some r := by rw [if_pos rfl] at H; exact H
            clear H
            have H := H1
            clear H1
            replace H := Option.bind_eq_some_iff.mp H
            obtain ⟨t527, A170, H⟩ := H
            replace H : ((apostillelaw7_same.f kj2 t504 t527).bind fun t530 => (if t530 = true then (if (t507.length : Int) = 0 then (if t517 = true then ((nat_Bits.f t514).bind fun t531 => (if t531 = a0 then (if t519 = true then (some false) else (if t523 = true then (if (t522.length : Int) > 0 then (if 0 < (t522.length : Int) then (if 0 ≤ (IntKind.u64.wrap (Int.tmod a0 8)) then (if (rd t522 0) = (shl .u8 1 (IntKind.u64.wrap (Int.tmod a0 8))) then ((nat_Mul.f kj2 t504 t501).bind fun t533 => ((apostillelaw7_same.f kj2 t533 t498).bind fun t536 => (if t536 = true then ((apostilleref7_Is.f t498).bind fun t537 => (if t537 = true then ((apostillelaw7_known.f kj2).bind fun t538 => (some t538)) else (some false))) else (some false)))) else (some false)) else (none)) else (none)) else (some false)) else (some false))) else (some false))) else (some false)) else (some false)) else (some false))) = some r := H
            have A17 := Aside0.mk A170
            clear A170
            replace H := Option.bind_eq_some_iff.mp H
            obtain ⟨t530, A180, H⟩ := H
            replace H : (if t530 = true then (if (t507.length : Int) = 0 then (if t517 = true then ((nat_Bits.f t514).bind fun t531 => (if t531 = a0 then (if t519 = true then (some false) else (if t523 = true then (if (t522.length : Int) > 0 then (if 0 < (t522.length : Int) then (if 0 ≤ (IntKind.u64.wrap (Int.tmod a0 8)) then (if (rd t522 0) = (shl .u8 1 (IntKind.u64.wrap (Int.tmod a0 8))) then ((nat_Mul.f kj2 t504 t501).bind fun t533 => ((apostillelaw7_same.f kj2 t533 t498).bind fun t536 => (if t536 = true then ((apostilleref7_Is.f t498).bind fun t537 => (if t537 = true then ((apostillelaw7_known.f kj2).bind fun t538 => (some t538)) else (some false))) else (some false)))) else (some false)) else (none)) else (none)) else (some false)) else (some false))) else (some false))) else (some false)) else (some false)) else (some false)) = some r := H
            have A18 := Aside0.mk A180
            clear A180
            by_cases c19 : t530 = true
            · subst c19
              have H1 : (if (t507.length : Int) = 0 then (if t517 = true then ((nat_Bits.f t514).bind fun t531 => (if t531 = a0 then (if t519 = true then (some false) else (if t523 = true then (if (t522.length : Int) > 0 then (if 0 < (t522.length : Int) then (if 0 ≤ (IntKind.u64.wrap (Int.tmod a0 8)) then (if (rd t522 0) = (shl .u8 1 (IntKind.u64.wrap (Int.tmod a0 8))) then ((nat_Mul.f kj2 t504 t501).bind fun t533 => ((apostillelaw7_same.f kj2 t533 t498).bind fun t536 => (if t536 = true then ((apostilleref7_Is.f t498).bind fun t537 => (if t537 = true then ((apostillelaw7_known.f kj2).bind fun t538 => (some t538)) else (some false))) else (some false)))) else (some false)) else (none)) else (none)) else (some false)) else (some false))) else (some false))) else (some false)) else (some false)) = some r := by rw [if_pos rfl] at H; exact H
              clear H
              have H := H1
              clear H1
              by_cases c20 : (t507.length : Int) = 0
              · rw [if_pos c20] at H
                have c20b0 : ((t507.length : Int) == 0) = true := beq_iff_eq.mpr c20
                have c20b1 : ((t507.length : Int) != 0) = false := bne_eq_false_iff_eq.mpr c20
                clear c20
                by_cases c21 : t517 = true
                · subst c21
                  have H1 : ((nat_Bits.f t514).bind fun t531 => (if t531 = a0 then (if t519 = true then (some false) else (if t523 = true then (if (t522.length : Int) > 0 then (if 0 < (t522.length : Int) then (if 0 ≤ (IntKind.u64.wrap (Int.tmod a0 8)) then (if (rd t522 0) = (shl .u8 1 (IntKind.u64.wrap (Int.tmod a0 8))) then ((nat_Mul.f kj2 t504 t501).bind fun t533 => ((apostillelaw7_same.f kj2 t533 t498).bind fun t536 => (if t536 = true then ((apostilleref7_Is.f t498).bind fun t537 => (if t537 = true then ((apostillelaw7_known.f kj2).bind fun t538 => (some t538)) else (some false))) else (some false)))) else (some false)) else (none)) else (none)) else (some false)) else (some false))) else (some false))) = some r := by rw [if_pos rfl] at H; exact H
                  clear H
                  have H := H1
                  clear H1
                  replace H := Option.bind_eq_some_iff.mp H
                  obtain ⟨t531, A220, H⟩ := H
                  replace H : (if t531 = a0 then (if t519 = true then (some false) else (if t523 = true then (if (t522.length : Int) > 0 then (if 0 < (t522.length : Int) then (if 0 ≤ (IntKind.u64.wrap (Int.tmod a0 8)) then (if (rd t522 0) = (shl .u8 1 (IntKind.u64.wrap (Int.tmod a0 8))) then ((nat_Mul.f kj2 t504 t501).bind fun t533 => ((apostillelaw7_same.f kj2 t533 t498).bind fun t536 => (if t536 = true then ((apostilleref7_Is.f t498).bind fun t537 => (if t537 = true then ((apostillelaw7_known.f kj2).bind fun t538 => (some t538)) else (some false))) else (some false)))) else (some false)) else (none)) else (none)) else (some false)) else (some false))) else (some false)) = some r := H
                  have A22 := Aside0.mk A220
                  clear A220
                  by_cases c23 : t531 = a0
                  · rw [if_pos c23] at H
                    have c23b0 : (t531 == a0) = true := beq_iff_eq.mpr c23
                    have c23b1 : (t531 != a0) = false := bne_eq_false_iff_eq.mpr c23
                    clear c23
                    by_cases c24 : t519 = true
                    · subst c24
                      have H1 : (some false) = some r := by rw [if_pos rfl] at H; exact H
                      clear H
                      have H := H1
                      clear H1
                      exact absurd (Option.some.inj H) (by rw [hrT]; decide)
                    · replace c24 := Bool.eq_false_iff.mpr c24
                      subst c24
                      have H1 : (if t523 = true then (if (t522.length : Int) > 0 then (if 0 < (t522.length : Int) then (if 0 ≤ (IntKind.u64.wrap (Int.tmod a0 8)) then (if (rd t522 0) = (shl .u8 1 (IntKind.u64.wrap (Int.tmod a0 8))) then ((nat_Mul.f kj2 t504 t501).bind fun t533 => ((apostillelaw7_same.f kj2 t533 t498).bind fun t536 => (if t536 = true then ((apostilleref7_Is.f t498).bind fun t537 => (if t537 = true then ((apostillelaw7_known.f kj2).bind fun t538 => (some t538)) else (some false))) else (some false)))) else (some false)) else (none)) else (none)) else (some false)) else (some false)) = some r := by rw [if_neg (show ¬ (false = true) by decide)] at H; exact H
                      clear H
                      have H := H1
                      clear H1
                      by_cases c25 : t523 = true
                      · subst c25
                        have H1 : (if (t522.length : Int) > 0 then (if 0 < (t522.length : Int) then (if 0 ≤ (IntKind.u64.wrap (Int.tmod a0 8)) then (if (rd t522 0) = (shl .u8 1 (IntKind.u64.wrap (Int.tmod a0 8))) then ((nat_Mul.f kj2 t504 t501).bind fun t533 => ((apostillelaw7_same.f kj2 t533 t498).bind fun t536 => (if t536 = true then ((apostilleref7_Is.f t498).bind fun t537 => (if t537 = true then ((apostillelaw7_known.f kj2).bind fun t538 => (some t538)) else (some false))) else (some false)))) else (some false)) else (none)) else (none)) else (some false)) = some r := by rw [if_pos rfl] at H; exact H
                        clear H
                        have H := H1
                        clear H1
                        by_cases c26 : (t522.length : Int) > 0
                        · rw [if_pos c26] at H
                          have c26b0 : decide (0 < (t522.length : Int)) = true := decide_eq_true c26
                          have c26b1 : decide (0 < t522.length) = true := decide_eq_true (by omega)
                          clear c26
                          by_cases c27 : 0 < (t522.length : Int)
                          · rw [if_pos c27] at H
                            have c27b0 : decide (0 < (t522.length : Int)) = true := decide_eq_true c27
                            have c27b1 : decide (0 < t522.length) = true := decide_eq_true (by omega)
                            clear c27
                            obtain ⟨ji28, hji28⟩ : ∃ j_ : Int, (IntKind.u64.wrap (Int.tmod a0 8)) = j_ := ⟨_, rfl⟩
                            replace H : (if 0 ≤ (ji28) then (if (rd t522 0) = (shl .u8 1 (ji28)) then ((nat_Mul.f kj2 t504 t501).bind fun t533 => ((apostillelaw7_same.f kj2 t533 t498).bind fun t536 => (if t536 = true then ((apostilleref7_Is.f t498).bind fun t537 => (if t537 = true then ((apostillelaw7_known.f kj2).bind fun t538 => (some t538)) else (some false))) else (some false)))) else (some false)) else (none)) = some r := by first | (rw [hji28] at H; exact H) | (simp only [hji28] at H ⊢; exact H)
                            (try rw [hji28] at A8)
                            (try rw [hji28] at A9)
                            (try rw [hji28] at A10)
                            (try rw [hji28] at A11)
                            (try rw [hji28] at A12)
                            (try rw [hji28] at A13)
                            (try rw [hji28] at A14)
                            (try rw [hji28] at A17)
                            (try rw [hji28] at A18)
                            (try rw [hji28] at A22)
                            by_cases c29 : 0 ≤ (ji28)
                            · rw [if_pos c29] at H
                              have c29b0 := eq_true c29
                              have c29b1 : decide (0 ≤ (ji28)) = true := decide_eq_true c29
                              clear c29
                              obtain ⟨ji30, hji30⟩ : ∃ j_ : Int, (shl .u8 1 (ji28)) = j_ := ⟨_, rfl⟩
                              replace H : (if (rd t522 0) = (ji30) then ((nat_Mul.f kj2 t504 t501).bind fun t533 => ((apostillelaw7_same.f kj2 t533 t498).bind fun t536 => (if t536 = true then ((apostilleref7_Is.f t498).bind fun t537 => (if t537 = true then ((apostillelaw7_known.f kj2).bind fun t538 => (some t538)) else (some false))) else (some false)))) else (some false)) = some r := by first | (rw [hji30] at H; exact H) | (simp only [hji30] at H ⊢; exact H)
                              (try rw [hji30] at A8)
                              (try rw [hji30] at A9)
                              (try rw [hji30] at A10)
                              (try rw [hji30] at A11)
                              (try rw [hji30] at A12)
                              (try rw [hji30] at A13)
                              (try rw [hji30] at A14)
                              (try rw [hji30] at A17)
                              (try rw [hji30] at A18)
                              (try rw [hji30] at A22)
                              have hji30_ : (IntKind.u8.wrap (1 * 2 ^ min (ji28).toNat 8)) = ji30 := hji30
                              have hji30z : (ji28) ≤ 8 → (IntKind.u8.wrap (1 * 2 ^ (ji28).toNat)) = ji30 := shl_small hji30
                              have hji30m : (1 * 2 ^ min (ji28).toNat 8) % 256 = ji30 := (wrap_u8_mod _).symm.trans hji30_
                              have hji30u : (IntKind.u8.wrap (2 ^ min (ji28).toNat 8)) = ji30 := by have h_ := hji30_; rw [Int.one_mul] at h_; exact h_
                              have hji30v : (ji28) ≤ 8 → (IntKind.u8.wrap (2 ^ (ji28).toNat)) = ji30 := fun hle_ => by have h_ := hji30z hle_; rw [Int.one_mul] at h_; exact h_
                              by_cases c31 : (rd t522 0) = (ji30)
                              · rw [if_pos c31] at H
                                have c31b0 : ((rd t522 0) == (ji30)) = true := beq_iff_eq.mpr c31
                                have c31b1 : ((rd t522 0) != (ji30)) = false := bne_eq_false_iff_eq.mpr c31
                                clear c31
                                replace H := Option.bind_eq_some_iff.mp H
                                obtain ⟨t533, A320, H⟩ := H
                                replace H : ((apostillelaw7_same.f kj2 t533 t498).bind fun t536 => (if t536 = true then ((apostilleref7_Is.f t498).bind fun t537 => (if t537 = true then ((apostillelaw7_known.f kj2).bind fun t538 => (some t538)) else (some false))) else (some false))) = some r := H
                                have A32 := Aside0.mk A320
                                clear A320
                                replace H := Option.bind_eq_some_iff.mp H
                                obtain ⟨t536, A330, H⟩ := H
                                replace H : (if t536 = true then ((apostilleref7_Is.f t498).bind fun t537 => (if t537 = true then ((apostillelaw7_known.f kj2).bind fun t538 => (some t538)) else (some false))) else (some false)) = some r := H
                                have A33 := Aside0.mk A330
                                clear A330
                                by_cases c34 : t536 = true
                                · subst c34
                                  have H1 : ((apostilleref7_Is.f t498).bind fun t537 => (if t537 = true then ((apostillelaw7_known.f kj2).bind fun t538 => (some t538)) else (some false))) = some r := by rw [if_pos rfl] at H; exact H
                                  clear H
                                  have H := H1
                                  clear H1
                                  replace H := Option.bind_eq_some_iff.mp H
                                  obtain ⟨t537, A350, H⟩ := H
                                  replace H : (if t537 = true then ((apostillelaw7_known.f kj2).bind fun t538 => (some t538)) else (some false)) = some r := H
                                  have A35 := Aside0.mk A350
                                  clear A350
                                  by_cases c36 : t537 = true
                                  · subst c36
                                    have H1 : ((apostillelaw7_known.f kj2).bind fun t538 => (some t538)) = some r := by rw [if_pos rfl] at H; exact H
                                    clear H
                                    have H := H1
                                    clear H1
                                    replace H := Option.bind_eq_some_iff.mp H
                                    obtain ⟨t538, A370, H⟩ := H
                                    replace H : (some t538) = some r := H
                                    have A37 := Aside0.mk A370
                                    clear A370
                                    obtain rfl := Option.some.inj H
                                    go_wp2_with (first | ((with_reducible refine gate_callee (f := 28) rfl ?_); refine goesL_ (some 32) rfl rfl Try.func28 (by kernel_rfl) rfl #[.int .i64 a0] rfl (by (try simp only [List.map_toArray, List.map_cons, List.map_nil]); first | done | rfl | (simp only [List.length_drop, List.length_take]; rfl)) ?_; (with_reducible refine (apostillelaw7_power.calls a0 t498 _ A8.out).mono ?_); rintro e w38 ⟨v499, rfl, ho0, hb⟩; refine ⟨_, rfl, ?_⟩; have n0_ := Aside0.mk (Kd.R_lower ho0 (below_size (by repeat (first | (with_reducible first | exact HB.out | apply below_alloc | apply pw_below_drewN | apply below_drew1) | exact HB.out)))); have n1_ := Aside0.mk (below_step (by repeat (first | (with_reducible first | exact HB.out | apply below_alloc | apply pw_below_drewN | apply below_drew1) | exact HB.out)) hb); clear HB; have HO500 := n0_; have HB := n1_; clear n0_ n1_; (try clear hb); (try clear hb2); (try clear hk); (try clear hi); (try clear ho0)) | ((with_reducible refine gate_callee (f := 28) rfl ?_); refine goesL_ (some 34) rfl rfl Try.func28 (by kernel_rfl) rfl #[.int .i64 a1] rfl (by (try simp only [List.map_toArray, List.map_cons, List.map_nil]); first | done | rfl | (simp only [List.length_drop, List.length_take]; rfl)) ?_; (with_reducible refine (apostillelaw7_power.calls a1 t501 _ A9.out).mono ?_); rintro e w39 ⟨v502, rfl, ho0, hb⟩; refine ⟨_, rfl, ?_⟩; have n0_ := Aside0.mk (Kd.R_elder' (by (with_reducible repeat (first | apply Kd.R_alloc | apply Kd.R_drewN | apply Kd.R_drew)); exact HO500.out) (Kd.R_base ho0) hb); have n1_ := Aside0.mk (Kd.R_lower (Kd.R_new' ho0 (Kd.R_lt (by (with_reducible repeat (first | apply Kd.R_alloc | apply Kd.R_drewN | apply Kd.R_drew)); exact HO500.out))) (below_size (by repeat (first | (with_reducible first | exact HB.out | apply below_alloc | apply pw_below_drewN | apply below_drew1) | exact HB.out)))); have n2_ := Aside0.mk (below_step (by repeat (first | (with_reducible first | exact HB.out | apply below_alloc | apply pw_below_drewN | apply below_drew1) | exact HB.out)) hb); clear HO500; clear HB; have HO500 := n0_; have HO503 := n1_; have HB := n2_; clear n0_ n1_ n2_; (try clear hb); (try clear hb2); (try clear hk); (try clear hi); (try clear ho0); obtain ⟨Ao40, co40, eo40⟩ := Kd.R_slice HO500.out; subst eo40; obtain ⟨Ao41, co41, eo41⟩ := Kd.R_slice HO503.out; subst eo41) | ((with_reducible refine gate_callee (f := 27) rfl ?_); refine goesL_ (some 38) rfl rfl Try.func27 (by kernel_rfl) rfl #[.slice Ao40 t498.length co40, .slice Ao41 t501.length co41] rfl (by (try simp only [List.map_toArray, List.map_cons, List.map_nil]); first | done | rfl | (simp only [List.length_drop, List.length_take]; rfl)) ?_; (with_reducible refine (nat_Div.calls kj2 _ _ t498 _ _ t501 t504 t507 true _ ?side1 ?side2 ?side3 ?side4 A10.out).mono ?_); (case side1 => repeat (first | exact (Kd.R_reads' HO500.out).2.2 | (with_reducible refine Kd.C_alloc ?_ _) | (with_reducible refine Kd.C_drewN ?_ _) | (with_reducible refine Kd.C_drew ?_))); (case side2 => exact (Kd.R_reads' HO500.out).2.1); (case side3 => repeat (first | exact (Kd.R_reads' HO503.out).2.2 | (with_reducible refine Kd.C_alloc ?_ _) | (with_reducible refine Kd.C_drewN ?_ _) | (with_reducible refine Kd.C_drew ?_))); (case side4 => exact (Kd.R_reads' HO503.out).2.1); rintro e w42 ⟨v505, v508, rfl, ho0, ho1, hb⟩; refine ⟨_, rfl, ?_⟩; have n0_ := Aside0.mk (Kd.R_below (by (with_reducible repeat (first | apply Kd.R_alloc | apply Kd.R_drewN | apply Kd.R_drew)); exact HO500.out) hb); have n1_ := Aside0.mk (Kd.R_below (by (with_reducible repeat (first | apply Kd.R_alloc | apply Kd.R_drewN | apply Kd.R_drew)); exact HO503.out) hb); have n2_ := Aside0.mk (Kd.V_lower (Kd.V_mono (ok' := fun k_ => some k_ ≠ (.slice Ao40 t498.length co40 : Value).ownBlock ∧ some k_ ≠ (.slice Ao41 t501.length co41 : Value).ownBlock) ho0 (fun k_ hk_ => ⟨(Kd.fresh' (Kd.R_lt (by (with_reducible repeat (first | apply Kd.R_alloc | apply Kd.R_drewN | apply Kd.R_drew)); exact HO500.out)) k_ hk_), (Kd.fresh' (Kd.R_lt (by (with_reducible repeat (first | apply Kd.R_alloc | apply Kd.R_drewN | apply Kd.R_drew)); exact HO503.out)) k_ hk_)⟩)) (below_size (by repeat (first | (with_reducible first | exact HB.out | apply below_alloc | apply pw_below_drewN | apply below_drew1) | exact HB.out)))); have n3_ := Aside0.mk (Kd.V_lower (Kd.V_mono (ok' := fun k_ => some k_ ≠ (.slice Ao40 t498.length co40 : Value).ownBlock ∧ some k_ ≠ (.slice Ao41 t501.length co41 : Value).ownBlock) ho1 (fun k_ hk_ => ⟨(Kd.fresh' (Kd.R_lt (by (with_reducible repeat (first | apply Kd.R_alloc | apply Kd.R_drewN | apply Kd.R_drew)); exact HO500.out)) k_ hk_), (Kd.fresh' (Kd.R_lt (by (with_reducible repeat (first | apply Kd.R_alloc | apply Kd.R_drewN | apply Kd.R_drew)); exact HO503.out)) k_ hk_)⟩)) (below_size (by repeat (first | (with_reducible first | exact HB.out | apply below_alloc | apply pw_below_drewN | apply below_drew1) | exact HB.out)))); have n4_ := Aside0.mk (below_step (by repeat (first | (with_reducible first | exact HB.out | apply below_alloc | apply pw_below_drewN | apply below_drew1) | exact HB.out)) hb); clear HO500; clear HO503; clear HB; have HO500 := n0_; have HO503 := n1_; have HO506 := n2_; have HO509 := n3_; have HB := n4_; clear n0_ n1_ n2_ n3_ n4_; (try clear hb); (try clear hb2); (try clear hk); (try clear hi); (try clear ho0); (try clear ho1)) | ((with_reducible refine gate_dst (N := 44) rfl ?_); (try (refine gate_guard (by rfl) ?_; dsimp only)); refine Kd.R_lit (Kd.int .u32) _ 40 ?hg (N := 44) ?hd (xs := ([1] : List Int)) (inner := [.int .u32 1]) (ok := fun _ => True) (okp := fun _ => True) ?hr ?hp (fun _ hk => hk) trivial (Below.refl _ _) (Nat.le_refl _) (by simp) ?_; (case hd => rfl); (case hg => rfl); (case hr => first | (go_simp; done) | (go_simp; rfl)); (case hp => exact (Reps.one (show Kd.M (Kd.int .u32) _ _ _ 1 [.int .u32 1] from rfl) (Reps.none _ _))); intro v512 w43 ho44 hb hg_ hnew_; clear hg_ hnew_; (first | rw [← Ny511.out] at ho44 | (simp only [Int.reduceToNat] at ho44; rw [← Ny511.out] at ho44)); have n0_ := Aside0.mk (Kd.R_elder' (by (with_reducible repeat (first | apply Kd.R_alloc | apply Kd.R_drewN | apply Kd.R_drew)); exact HO500.out) (Kd.R_base ho44) hb); have n1_ := Aside0.mk (Kd.R_elder' (by (with_reducible repeat (first | apply Kd.R_alloc | apply Kd.R_drewN | apply Kd.R_drew)); exact HO503.out) (Kd.R_base ho44) hb); have n2_ := Aside0.mk (Kd.V_elder' (by (with_reducible repeat (first | apply Kd.V_alloc | apply Kd.V_drewN | apply Kd.V_drew)); exact HO506.out) (Kd.R_base ho44) hb); have n3_ := Aside0.mk (Kd.V_elder' (by (with_reducible repeat (first | apply Kd.V_alloc | apply Kd.V_drewN | apply Kd.V_drew)); exact HO509.out) (Kd.R_base ho44) hb); have n4_ := Aside0.mk (Kd.R_lower (Kd.R_new' (Kd.R_new' ho44 (Kd.R_lt (by (with_reducible repeat (first | apply Kd.R_alloc | apply Kd.R_drewN | apply Kd.R_drew)); exact HO500.out))) (Kd.R_lt (by (with_reducible repeat (first | apply Kd.R_alloc | apply Kd.R_drewN | apply Kd.R_drew)); exact HO503.out))) (below_size (by repeat (first | (with_reducible first | exact HB.out | apply below_alloc | apply pw_below_drewN | apply below_drew1) | exact HB.out)))); have n5_ := Aside0.mk (below_step (by repeat (first | (with_reducible first | exact HB.out | apply below_alloc | apply pw_below_drewN | apply below_drew1) | exact HB.out)) hb); clear HO500; clear HO503; clear HO506; clear HO509; clear HB; have HO500 := n0_; have HO503 := n1_; have HO506 := n2_; have HO509 := n3_; have HO513 := n4_; have HB := n5_; clear n0_ n1_ n2_ n3_ n4_ n5_; clear hb ho44; obtain ⟨Ao45, co45, eo45⟩ := Kd.R_slice HO513.out; subst eo45) | ((with_reducible refine gate_callee (f := 19) rfl ?_); refine goesL_ (some 45) rfl rfl Try.func19 (by kernel_rfl) rfl #[.slice Ao40 t498.length co40, .slice Ao45 y511.length co45] rfl (by (try simp only [List.map_toArray, List.map_cons, List.map_nil]); first | done | rfl | (simp only [List.length_drop, List.length_take]; rfl)) ?_; (with_reducible refine (nat_Sub.calls kj2 _ _ t498 _ _ y511 t514 true _ ?side1 ?side2 ?side3 ?side4 A11.out).mono ?_); (case side1 => repeat (first | exact (Kd.R_reads' HO500.out).2.2 | (with_reducible refine Kd.C_alloc ?_ _) | (with_reducible refine Kd.C_drewN ?_ _) | (with_reducible refine Kd.C_drew ?_))); (case side2 => exact (Kd.R_reads' HO500.out).2.1); (case side3 => repeat (first | exact (Kd.R_reads' HO513.out).2.2 | (with_reducible refine Kd.C_alloc ?_ _) | (with_reducible refine Kd.C_drewN ?_ _) | (with_reducible refine Kd.C_drew ?_))); (case side4 => exact (Kd.R_reads' HO513.out).2.1); rintro e w46 ⟨v515, rfl, ho0, hb⟩; refine ⟨_, rfl, ?_⟩; have n0_ := Aside0.mk (Kd.R_below (by (with_reducible repeat (first | apply Kd.R_alloc | apply Kd.R_drewN | apply Kd.R_drew)); exact HO500.out) hb); have n1_ := Aside0.mk (Kd.R_below (by (with_reducible repeat (first | apply Kd.R_alloc | apply Kd.R_drewN | apply Kd.R_drew)); exact HO503.out) hb); have n2_ := Aside0.mk (Kd.V_below (by (with_reducible repeat (first | apply Kd.V_alloc | apply Kd.V_drewN | apply Kd.V_drew)); exact HO506.out) hb); have n3_ := Aside0.mk (Kd.V_below (by (with_reducible repeat (first | apply Kd.V_alloc | apply Kd.V_drewN | apply Kd.V_drew)); exact HO509.out) hb); have n4_ := Aside0.mk (Kd.R_below (by (with_reducible repeat (first | apply Kd.R_alloc | apply Kd.R_drewN | apply Kd.R_drew)); exact HO513.out) hb); have n5_ := Aside0.mk (Kd.V_lower (Kd.V_mono (ok' := fun k_ => some k_ ≠ (.slice Ao40 t498.length co40 : Value).ownBlock ∧ some k_ ≠ (.slice Ao41 t501.length co41 : Value).ownBlock ∧ some k_ ≠ (.slice Ao45 y511.length co45 : Value).ownBlock) ho0 (fun k_ hk_ => ⟨(Kd.fresh' (Kd.R_lt (by (with_reducible repeat (first | apply Kd.R_alloc | apply Kd.R_drewN | apply Kd.R_drew)); exact HO500.out)) k_ hk_), (Kd.fresh' (Kd.R_lt (by (with_reducible repeat (first | apply Kd.R_alloc | apply Kd.R_drewN | apply Kd.R_drew)); exact HO503.out)) k_ hk_), (Kd.fresh' (Kd.R_lt (by (with_reducible repeat (first | apply Kd.R_alloc | apply Kd.R_drewN | apply Kd.R_drew)); exact HO513.out)) k_ hk_)⟩)) (below_size (by repeat (first | (with_reducible first | exact HB.out | apply below_alloc | apply pw_below_drewN | apply below_drew1) | exact HB.out)))); have n6_ := Aside0.mk (below_step (by repeat (first | (with_reducible first | exact HB.out | apply below_alloc | apply pw_below_drewN | apply below_drew1) | exact HB.out)) hb); clear HO500; clear HO503; clear HO506; clear HO509; clear HO513; clear HB; have HO500 := n0_; have HO503 := n1_; have HO506 := n2_; have HO509 := n3_; have HO513 := n4_; have HO516 := n5_; have HB := n6_; clear n0_ n1_ n2_ n3_ n4_ n5_ n6_; (try clear hb); (try clear hb2); (try clear hk); (try clear hi); (try clear ho0)) | ((with_reducible refine gate_callee (f := 10) rfl ?_); refine goesL_ (some 52) rfl rfl Try.func10 (by kernel_rfl) rfl #[.slice Ao40 t498.length co40, .int .i64 (wrap64 (Int.tdiv a0 8))] rfl (by (try simp only [List.map_toArray, List.map_cons, List.map_nil]); first | done | rfl | (simp only [List.length_drop, List.length_take]; rfl)) ?_; (with_reducible refine (nat_Bytes.calls kj2 _ _ t498 (wrap64 (Int.tdiv a0 8)) t518 false _ ?side1 ?side2 A12.out).mono ?_); (case side1 => repeat (first | exact (Kd.R_reads' HO500.out).2.2 | (with_reducible refine Kd.C_alloc ?_ _) | (with_reducible refine Kd.C_drewN ?_ _) | (with_reducible refine Kd.C_drew ?_))); (case side2 => exact (Kd.R_reads' HO500.out).2.1); rintro e w47 ⟨v520, rfl, ho0, hb⟩; refine ⟨_, rfl, ?_⟩; have n0_ := Aside0.mk (Kd.R_below (by (with_reducible repeat (first | apply Kd.R_alloc | apply Kd.R_drewN | apply Kd.R_drew)); exact HO500.out) hb); have n1_ := Aside0.mk (Kd.R_below (by (with_reducible repeat (first | apply Kd.R_alloc | apply Kd.R_drewN | apply Kd.R_drew)); exact HO503.out) hb); have n2_ := Aside0.mk (Kd.V_elder' (by (with_reducible repeat (first | apply Kd.V_alloc | apply Kd.V_drewN | apply Kd.V_drew)); exact HO506.out) (Kd.R_base ho0) hb); have n3_ := Aside0.mk (Kd.V_elder' (by (with_reducible repeat (first | apply Kd.V_alloc | apply Kd.V_drewN | apply Kd.V_drew)); exact HO509.out) (Kd.R_base ho0) hb); have n4_ := Aside0.mk (Kd.R_below (by (with_reducible repeat (first | apply Kd.R_alloc | apply Kd.R_drewN | apply Kd.R_drew)); exact HO513.out) hb); have n5_ := Aside0.mk (Kd.V_elder' (by (with_reducible repeat (first | apply Kd.V_alloc | apply Kd.V_drewN | apply Kd.V_drew)); exact HO516.out) (Kd.R_base ho0) hb); have n6_ := Aside0.mk (Kd.R_lower ho0 (below_size (by repeat (first | (with_reducible first | exact HB.out | apply below_alloc | apply pw_below_drewN | apply below_drew1) | exact HB.out)))); have n7_ := Aside0.mk (below_step (by repeat (first | (with_reducible first | exact HB.out | apply below_alloc | apply pw_below_drewN | apply below_drew1) | exact HB.out)) hb); clear HO500; clear HO503; clear HO506; clear HO509; clear HO513; clear HO516; clear HB; have HO500 := n0_; have HO503 := n1_; have HO506 := n2_; have HO509 := n3_; have HO513 := n4_; have HO516 := n5_; have HO521 := n6_; have HB := n7_; clear n0_ n1_ n2_ n3_ n4_ n5_ n6_ n7_; (try clear hb); (try clear hb2); (try clear hk); (try clear hi); (try clear ho0)) | ((with_reducible refine gate_callee (f := 10) rfl ?_); refine goesL_ (some 60) rfl rfl Try.func10 (by kernel_rfl) rfl #[.slice Ao40 t498.length co40, .int .i64 (wrap64 ((wrap64 (Int.tdiv a0 8)) + 1))] rfl (by (try simp only [List.map_toArray, List.map_cons, List.map_nil]); first | done | rfl | (simp only [List.length_drop, List.length_take]; rfl)) ?_; (with_reducible refine (nat_Bytes.calls kj2 _ _ t498 (wrap64 ((wrap64 (Int.tdiv a0 8)) + 1)) t522 true _ ?side1 ?side2 A13.out).mono ?_); (case side1 => repeat (first | exact (Kd.R_reads' HO500.out).2.2 | (with_reducible refine Kd.C_alloc ?_ _) | (with_reducible refine Kd.C_drewN ?_ _) | (with_reducible refine Kd.C_drew ?_))); (case side2 => exact (Kd.R_reads' HO500.out).2.1); rintro e w48 ⟨v524, rfl, ho0, hb⟩; refine ⟨_, rfl, ?_⟩; have n0_ := Aside0.mk (Kd.R_below (by (with_reducible repeat (first | apply Kd.R_alloc | apply Kd.R_drewN | apply Kd.R_drew)); exact HO500.out) hb); have n1_ := Aside0.mk (Kd.R_below (by (with_reducible repeat (first | apply Kd.R_alloc | apply Kd.R_drewN | apply Kd.R_drew)); exact HO503.out) hb); have n2_ := Aside0.mk (Kd.V_elder' (by (with_reducible repeat (first | apply Kd.V_alloc | apply Kd.V_drewN | apply Kd.V_drew)); exact HO506.out) (Kd.R_base ho0) hb); have n3_ := Aside0.mk (Kd.V_elder' (by (with_reducible repeat (first | apply Kd.V_alloc | apply Kd.V_drewN | apply Kd.V_drew)); exact HO509.out) (Kd.R_base ho0) hb); have n4_ := Aside0.mk (Kd.R_below (by (with_reducible repeat (first | apply Kd.R_alloc | apply Kd.R_drewN | apply Kd.R_drew)); exact HO513.out) hb); have n5_ := Aside0.mk (Kd.V_elder' (by (with_reducible repeat (first | apply Kd.V_alloc | apply Kd.V_drewN | apply Kd.V_drew)); exact HO516.out) (Kd.R_base ho0) hb); have n6_ := Aside0.mk (Kd.R_elder' (by (with_reducible repeat (first | apply Kd.R_alloc | apply Kd.R_drewN | apply Kd.R_drew)); exact HO521.out) (Kd.R_base ho0) hb); have n7_ := Aside0.mk (Kd.R_lower (Kd.R_new' ho0 (Kd.R_lt (by (with_reducible repeat (first | apply Kd.R_alloc | apply Kd.R_drewN | apply Kd.R_drew)); exact HO521.out))) (below_size (by repeat (first | (with_reducible first | exact HB.out | apply below_alloc | apply pw_below_drewN | apply below_drew1) | exact HB.out)))); have n8_ := Aside0.mk (below_step (by repeat (first | (with_reducible first | exact HB.out | apply below_alloc | apply pw_below_drewN | apply below_drew1) | exact HB.out)) hb); clear HO500; clear HO503; clear HO506; clear HO509; clear HO513; clear HO516; clear HO521; clear HB; have HO500 := n0_; have HO503 := n1_; have HO506 := n2_; have HO509 := n3_; have HO513 := n4_; have HO516 := n5_; have HO521 := n6_; have HO525 := n7_; have HB := n8_; clear n0_ n1_ n2_ n3_ n4_ n5_ n6_ n7_ n8_; (try clear hb); (try clear hb2); (try clear hk); (try clear hi); (try clear ho0)) | (go_at_call 14; (with_reducible refine (nat_Bits.calls _ _ t498 t526 _ ?side1 ?side2 A14.out).mono ?_); (case side1 => repeat (first | exact (Kd.R_reads' HO500.out).2.2 | (with_reducible refine Kd.C_alloc ?_ _) | (with_reducible refine Kd.C_drewN ?_ _) | (with_reducible refine Kd.C_drew ?_))); (case side2 => exact (Kd.R_reads' HO500.out).2.1); rintro e w' ⟨rfl, ⟨nd, rfl⟩⟩) | (go_at_call 28; (with_reducible refine (apostillelaw7_power.calls (wrap64 (a0 - a1)) t527 _ A17.out).mono ?_); rintro e w49 ⟨v528, rfl, ho0, hb⟩; have n0_ := Aside0.mk (Kd.R_elder' (by (with_reducible repeat (first | apply Kd.R_alloc | apply Kd.R_drewN | apply Kd.R_drew)); exact HO500.out) (Kd.R_base ho0) hb); have n1_ := Aside0.mk (Kd.R_elder' (by (with_reducible repeat (first | apply Kd.R_alloc | apply Kd.R_drewN | apply Kd.R_drew)); exact HO503.out) (Kd.R_base ho0) hb); have n2_ := Aside0.mk (Kd.V_elder' (by (with_reducible repeat (first | apply Kd.V_alloc | apply Kd.V_drewN | apply Kd.V_drew)); exact HO506.out) (Kd.R_base ho0) hb); have n3_ := Aside0.mk (Kd.V_elder' (by (with_reducible repeat (first | apply Kd.V_alloc | apply Kd.V_drewN | apply Kd.V_drew)); exact HO509.out) (Kd.R_base ho0) hb); have n4_ := Aside0.mk (Kd.R_elder' (by (with_reducible repeat (first | apply Kd.R_alloc | apply Kd.R_drewN | apply Kd.R_drew)); exact HO513.out) (Kd.R_base ho0) hb); have n5_ := Aside0.mk (Kd.V_elder' (by (with_reducible repeat (first | apply Kd.V_alloc | apply Kd.V_drewN | apply Kd.V_drew)); exact HO516.out) (Kd.R_base ho0) hb); have n6_ := Aside0.mk (Kd.R_below (by (with_reducible repeat (first | apply Kd.R_alloc | apply Kd.R_drewN | apply Kd.R_drew)); exact HO521.out) hb); have n7_ := Aside0.mk (Kd.R_below (by (with_reducible repeat (first | apply Kd.R_alloc | apply Kd.R_drewN | apply Kd.R_drew)); exact HO525.out) hb); have n8_ := Aside0.mk (Kd.R_lower (Kd.R_new' (Kd.R_new' (Kd.R_new' ho0 (Kd.R_lt (by (with_reducible repeat (first | apply Kd.R_alloc | apply Kd.R_drewN | apply Kd.R_drew)); exact HO500.out))) (Kd.R_lt (by (with_reducible repeat (first | apply Kd.R_alloc | apply Kd.R_drewN | apply Kd.R_drew)); exact HO503.out))) (Kd.R_lt (by (with_reducible repeat (first | apply Kd.R_alloc | apply Kd.R_drewN | apply Kd.R_drew)); exact HO513.out))) (below_size (by repeat (first | (with_reducible first | exact HB.out | apply below_alloc | apply pw_below_drewN | apply below_drew1) | exact HB.out)))); have n9_ := Aside0.mk (below_step (by repeat (first | (with_reducible first | exact HB.out | apply below_alloc | apply pw_below_drewN | apply below_drew1) | exact HB.out)) hb); clear HO500; clear HO503; clear HO506; clear HO509; clear HO513; clear HO516; clear HO521; clear HO525; clear HB; have HO500 := n0_; have HO503 := n1_; have HO506 := n2_; have HO509 := n3_; have HO513 := n4_; have HO516 := n5_; have HO521 := n6_; have HO525 := n7_; have HO529 := n8_; have HB := n9_; clear n0_ n1_ n2_ n3_ n4_ n5_ n6_ n7_ n8_ n9_; (try clear hb); (try clear hb2); (try clear hk); (try clear hi); (try clear ho0); (try clear A17); obtain ⟨Ao50, co50, eo50⟩ := Kd.V_slice HO506.out; subst eo50; obtain ⟨Ao51, co51, eo51⟩ := Kd.R_slice HO529.out; subst eo51) | (go_at_call 13; (with_reducible refine (apostillelaw7_same.calls kj2 _ _ t504 _ _ t527 true _ ?side1 ?side2 ?side3 ?side4 A18.out).mono ?_); (case side1 => repeat (first | exact (Kd.V_reads' HO506.out).2.2 | (with_reducible refine Kd.C_alloc ?_ _) | (with_reducible refine Kd.C_drewN ?_ _) | (with_reducible refine Kd.C_drew ?_))); (case side2 => exact (Kd.V_reads' HO506.out).2.1); (case side3 => repeat (first | exact (Kd.R_reads' HO529.out).2.2 | (with_reducible refine Kd.C_alloc ?_ _) | (with_reducible refine Kd.C_drewN ?_ _) | (with_reducible refine Kd.C_drew ?_))); (case side4 => exact (Kd.R_reads' HO529.out).2.1); rintro e w' ⟨rfl, ⟨nd, rfl⟩⟩; (try clear A18); obtain ⟨Ao52, co52, eo52⟩ := Kd.V_slice HO509.out; subst eo52; obtain ⟨Ao53, co53, eo53⟩ := Kd.V_slice HO516.out; subst eo53) | (go_at_call 14; (with_reducible refine (nat_Bits.calls _ _ t514 t531 _ ?side1 ?side2 A22.out).mono ?_); (case side1 => repeat (first | exact (Kd.V_reads' HO516.out).2.2 | (with_reducible refine Kd.C_alloc ?_ _) | (with_reducible refine Kd.C_drewN ?_ _) | (with_reducible refine Kd.C_drew ?_))); (case side2 => exact (Kd.V_reads' HO516.out).2.1); rintro e w' ⟨rfl, ⟨nd, rfl⟩⟩; (try clear A22); obtain ⟨Ao54, co54, eo54⟩ := Kd.R_slice HO525.out; subst eo54; have p532 : 0 ≤ (0 : Int) := (by omega); have q532 : 0 < (t522.length : Int) := of_decide_eq_true (by first | (with_reducible assumption) | assumption); obtain ⟨ad532, e532, hx532_0⟩ := Kd.at_int (Kd.R_reads' HO525.out).2.2 0 p532 q532; cases e532; have qi532 : (0 < t522.length) = True := eq_true (by omega); (try rw [show ((0 : Int)).toNat = 0 from rfl] at hx532_0); (try rw [Addr.add_zero'] at hx532_0); replace p532 := eq_true p532; replace q532 := eq_true q532) | (go_at_call 23; (with_reducible refine (nat_Mul.calls kj2 _ _ t504 _ _ t501 t533 _ ?side1 ?side2 ?side3 ?side4 A32.out).mono ?_); (case side1 => repeat (first | exact (Kd.V_reads' HO506.out).2.2 | (with_reducible refine Kd.C_alloc ?_ _) | (with_reducible refine Kd.C_drewN ?_ _) | (with_reducible refine Kd.C_drew ?_))); (case side2 => exact (Kd.V_reads' HO506.out).2.1); (case side3 => repeat (first | exact (Kd.R_reads' HO503.out).2.2 | (with_reducible refine Kd.C_alloc ?_ _) | (with_reducible refine Kd.C_drewN ?_ _) | (with_reducible refine Kd.C_drew ?_))); (case side4 => exact (Kd.R_reads' HO503.out).2.1); rintro e w55 ⟨v534, rfl, ho0, hb⟩; have n0_ := Aside0.mk (Kd.R_below (by (with_reducible repeat (first | apply Kd.R_alloc | apply Kd.R_drewN | apply Kd.R_drew)); exact HO500.out) hb); have n1_ := Aside0.mk (Kd.R_below (by (with_reducible repeat (first | apply Kd.R_alloc | apply Kd.R_drewN | apply Kd.R_drew)); exact HO503.out) hb); have n2_ := Aside0.mk (Kd.V_below (by (with_reducible repeat (first | apply Kd.V_alloc | apply Kd.V_drewN | apply Kd.V_drew)); exact HO506.out) hb); have n3_ := Aside0.mk (Kd.V_below (by (with_reducible repeat (first | apply Kd.V_alloc | apply Kd.V_drewN | apply Kd.V_drew)); exact HO509.out) hb); have n4_ := Aside0.mk (Kd.R_below (by (with_reducible repeat (first | apply Kd.R_alloc | apply Kd.R_drewN | apply Kd.R_drew)); exact HO513.out) hb); have n5_ := Aside0.mk (Kd.V_below (by (with_reducible repeat (first | apply Kd.V_alloc | apply Kd.V_drewN | apply Kd.V_drew)); exact HO516.out) hb); have n6_ := Aside0.mk (Kd.R_below (by (with_reducible repeat (first | apply Kd.R_alloc | apply Kd.R_drewN | apply Kd.R_drew)); exact HO521.out) hb); have n7_ := Aside0.mk (Kd.R_below (by (with_reducible repeat (first | apply Kd.R_alloc | apply Kd.R_drewN | apply Kd.R_drew)); exact HO525.out) hb); have n8_ := Aside0.mk (Kd.R_below (by (with_reducible repeat (first | apply Kd.R_alloc | apply Kd.R_drewN | apply Kd.R_drew)); exact HO529.out) hb); have n9_ := Aside0.mk (Kd.V_lower (Kd.V_mono (ok' := fun k_ => some k_ ≠ (.slice Ao40 t498.length co40 : Value).ownBlock ∧ some k_ ≠ (.slice Ao41 t501.length co41 : Value).ownBlock ∧ some k_ ≠ (.slice Ao45 y511.length co45 : Value).ownBlock ∧ some k_ ≠ (v520 : Value).ownBlock ∧ some k_ ≠ (.slice (some ad532) t522.length co54 : Value).ownBlock ∧ some k_ ≠ (.slice Ao51 t527.length co51 : Value).ownBlock) ho0 (fun k_ hk_ => ⟨(Kd.fresh' (Kd.R_lt (by (with_reducible repeat (first | apply Kd.R_alloc | apply Kd.R_drewN | apply Kd.R_drew)); exact HO500.out)) k_ hk_), (Kd.fresh' (Kd.R_lt (by (with_reducible repeat (first | apply Kd.R_alloc | apply Kd.R_drewN | apply Kd.R_drew)); exact HO503.out)) k_ hk_), (Kd.fresh' (Kd.R_lt (by (with_reducible repeat (first | apply Kd.R_alloc | apply Kd.R_drewN | apply Kd.R_drew)); exact HO513.out)) k_ hk_), (Kd.fresh' (Kd.R_lt (by (with_reducible repeat (first | apply Kd.R_alloc | apply Kd.R_drewN | apply Kd.R_drew)); exact HO521.out)) k_ hk_), (Kd.fresh' (Kd.R_lt (by (with_reducible repeat (first | apply Kd.R_alloc | apply Kd.R_drewN | apply Kd.R_drew)); exact HO525.out)) k_ hk_), (Kd.fresh' (Kd.R_lt (by (with_reducible repeat (first | apply Kd.R_alloc | apply Kd.R_drewN | apply Kd.R_drew)); exact HO529.out)) k_ hk_)⟩)) (below_size (by repeat (first | (with_reducible first | exact HB.out | apply below_alloc | apply pw_below_drewN | apply below_drew1) | exact HB.out)))); have n10_ := Aside0.mk (below_step (by repeat (first | (with_reducible first | exact HB.out | apply below_alloc | apply pw_below_drewN | apply below_drew1) | exact HB.out)) hb); clear HO500; clear HO503; clear HO506; clear HO509; clear HO513; clear HO516; clear HO521; clear HO525; clear HO529; clear HB; have HO500 := n0_; have HO503 := n1_; have HO506 := n2_; have HO509 := n3_; have HO513 := n4_; have HO516 := n5_; have HO521 := n6_; have HO525 := n7_; have HO529 := n8_; have HO535 := n9_; have HB := n10_; clear n0_ n1_ n2_ n3_ n4_ n5_ n6_ n7_ n8_ n9_ n10_; (try clear hb); (try clear hb2); (try clear hk); (try clear hi); (try clear ho0); (try clear A32); obtain ⟨Ao56, co56, eo56⟩ := Kd.V_slice HO535.out; subst eo56) | (go_at_call 13; (with_reducible refine (apostillelaw7_same.calls kj2 _ _ t533 _ _ t498 true _ ?side1 ?side2 ?side3 ?side4 A33.out).mono ?_); (case side1 => repeat (first | exact (Kd.V_reads' HO535.out).2.2 | (with_reducible refine Kd.C_alloc ?_ _) | (with_reducible refine Kd.C_drewN ?_ _) | (with_reducible refine Kd.C_drew ?_))); (case side2 => exact (Kd.V_reads' HO535.out).2.1); (case side3 => repeat (first | exact (Kd.R_reads' HO500.out).2.2 | (with_reducible refine Kd.C_alloc ?_ _) | (with_reducible refine Kd.C_drewN ?_ _) | (with_reducible refine Kd.C_drew ?_))); (case side4 => exact (Kd.R_reads' HO500.out).2.1); rintro e w' ⟨rfl, ⟨nd, rfl⟩⟩; (try clear A33)) | (go_at_call 17; (with_reducible refine (apostilleref7_Is.calls _ _ t498 true _ ?side1 ?side2 A35.out).mono ?_); (case side1 => repeat (first | exact (Kd.R_reads' HO500.out).2.2 | (with_reducible refine Kd.C_alloc ?_ _) | (with_reducible refine Kd.C_drewN ?_ _) | (with_reducible refine Kd.C_drew ?_))); (case side2 => exact (Kd.R_reads' HO500.out).2.1); rintro e w' ⟨rfl, ⟨nd, rfl⟩⟩; (try clear A35)) | (go_at_call 16; (with_reducible refine (apostillelaw7_known.calls kj2  t538 _ A37.out).mono ?_); rintro e w57 ⟨rfl, hb⟩; have n0_ := Aside0.mk (Kd.R_below (by (with_reducible repeat (first | apply Kd.R_alloc | apply Kd.R_drewN | apply Kd.R_drew)); exact HO500.out) hb); have n1_ := Aside0.mk (Kd.R_below (by (with_reducible repeat (first | apply Kd.R_alloc | apply Kd.R_drewN | apply Kd.R_drew)); exact HO503.out) hb); have n2_ := Aside0.mk (Kd.V_below (by (with_reducible repeat (first | apply Kd.V_alloc | apply Kd.V_drewN | apply Kd.V_drew)); exact HO506.out) hb); have n3_ := Aside0.mk (Kd.V_below (by (with_reducible repeat (first | apply Kd.V_alloc | apply Kd.V_drewN | apply Kd.V_drew)); exact HO509.out) hb); have n4_ := Aside0.mk (Kd.R_below (by (with_reducible repeat (first | apply Kd.R_alloc | apply Kd.R_drewN | apply Kd.R_drew)); exact HO513.out) hb); have n5_ := Aside0.mk (Kd.V_below (by (with_reducible repeat (first | apply Kd.V_alloc | apply Kd.V_drewN | apply Kd.V_drew)); exact HO516.out) hb); have n6_ := Aside0.mk (Kd.R_below (by (with_reducible repeat (first | apply Kd.R_alloc | apply Kd.R_drewN | apply Kd.R_drew)); exact HO521.out) hb); have n7_ := Aside0.mk (Kd.R_below (by (with_reducible repeat (first | apply Kd.R_alloc | apply Kd.R_drewN | apply Kd.R_drew)); exact HO525.out) hb); have n8_ := Aside0.mk (Kd.R_below (by (with_reducible repeat (first | apply Kd.R_alloc | apply Kd.R_drewN | apply Kd.R_drew)); exact HO529.out) hb); have n9_ := Aside0.mk (Kd.V_below (by (with_reducible repeat (first | apply Kd.V_alloc | apply Kd.V_drewN | apply Kd.V_drew)); exact HO535.out) hb); have n10_ := Aside0.mk (below_step (by repeat (first | (with_reducible first | exact HB.out | apply below_alloc | apply pw_below_drewN | apply below_drew1) | exact HB.out)) hb); clear HO500; clear HO503; clear HO506; clear HO509; clear HO513; clear HO516; clear HO521; clear HO525; clear HO529; clear HO535; clear HB; have HO500 := n0_; have HO503 := n1_; have HO506 := n2_; have HO509 := n3_; have HO513 := n4_; have HO516 := n5_; have HO521 := n6_; have HO525 := n7_; have HO529 := n8_; have HO535 := n9_; have HB := n10_; clear n0_ n1_ n2_ n3_ n4_ n5_ n6_ n7_ n8_ n9_ n10_; (try clear hb); (try clear hb2); (try clear hk); (try clear hi); (try clear A37)))
                                    go_ret
                                    exact ⟨by first | rfl | (simp [errW_none, errW_some] <;> rfl) | (simp only [← hji28, ← hji30]; first | rfl | (simp [errW_none, errW_some] <;> rfl)) | (simp [*, errW_none, errW_some] <;> rfl), by repeat (first | (with_reducible first | exact HB.out | apply below_alloc | apply pw_below_drewN | apply below_drew1) | exact HB.out)⟩
                                  · replace c36 := Bool.eq_false_iff.mpr c36
                                    subst c36
                                    have H1 : (some false) = some r := by rw [if_neg (show ¬ (false = true) by decide)] at H; exact H
                                    clear H
                                    have H := H1
                                    clear H1
                                    exact absurd (Option.some.inj H) (by rw [hrT]; decide)
                                · replace c34 := Bool.eq_false_iff.mpr c34
                                  subst c34
                                  have H1 : (some false) = some r := by rw [if_neg (show ¬ (false = true) by decide)] at H; exact H
                                  clear H
                                  have H := H1
                                  clear H1
                                  exact absurd (Option.some.inj H) (by rw [hrT]; decide)
                              · rw [if_neg c31] at H
                                have c31b0 : ((rd t522 0) == (ji30)) = false := beq_eq_false_iff_ne.mpr c31
                                have c31b1 : ((rd t522 0) != (ji30)) = true := bne_iff_ne.mpr c31
                                exact absurd (Option.some.inj H) (by rw [hrT]; decide)
                            · rw [if_neg c29] at H
                              exact absurd H (by simp)
                          · rw [if_neg c27] at H
                            exact absurd H (by simp)
                        · rw [if_neg c26] at H
                          have c26b0 : decide (0 < (t522.length : Int)) = false := decide_eq_false c26
                          have c26b1 : decide (0 < t522.length) = false := decide_eq_false (by omega)
                          clear c26
                          exact absurd (Option.some.inj H) (by rw [hrT]; decide)
                      · replace c25 := Bool.eq_false_iff.mpr c25
                        subst c25
                        have H1 : (some false) = some r := by rw [if_neg (show ¬ (false = true) by decide)] at H; exact H
                        clear H
                        have H := H1
                        clear H1
                        exact absurd (Option.some.inj H) (by rw [hrT]; decide)
                  · rw [if_neg c23] at H
                    have c23b0 : (t531 == a0) = false := beq_eq_false_iff_ne.mpr c23
                    have c23b1 : (t531 != a0) = true := bne_iff_ne.mpr c23
                    exact absurd (Option.some.inj H) (by rw [hrT]; decide)
                · replace c21 := Bool.eq_false_iff.mpr c21
                  subst c21
                  have H1 : (some false) = some r := by rw [if_neg (show ¬ (false = true) by decide)] at H; exact H
                  clear H
                  have H := H1
                  clear H1
                  exact absurd (Option.some.inj H) (by rw [hrT]; decide)
              · rw [if_neg c20] at H
                have c20b0 : ((t507.length : Int) == 0) = false := beq_eq_false_iff_ne.mpr c20
                have c20b1 : ((t507.length : Int) != 0) = true := bne_iff_ne.mpr c20
                have c20b2 : ¬ (t507 = []) := fun h_ => c20 (by rw [h_]; rfl)
                exact absurd (Option.some.inj H) (by rw [hrT]; decide)
            · replace c19 := Bool.eq_false_iff.mpr c19
              subst c19
              have H1 : (some false) = some r := by rw [if_neg (show ¬ (false = true) by decide)] at H; exact H
              clear H
              have H := H1
              clear H1
              exact absurd (Option.some.inj H) (by rw [hrT]; decide)
          · replace c16 := Bool.eq_false_iff.mpr c16
            subst c16
            have H1 : (some false) = some r := by rw [if_neg (show ¬ (false = true) by decide)] at H; exact H
            clear H
            have H := H1
            clear H1
            exact absurd (Option.some.inj H) (by rw [hrT]; decide)
        · rw [if_neg c15] at H
          have c15b0 : (t526 == (wrap64 (a0 + 1))) = false := beq_eq_false_iff_ne.mpr c15
          have c15b1 : (t526 != (wrap64 (a0 + 1))) = true := bne_iff_ne.mpr c15
          exact absurd (Option.some.inj H) (by rw [hrT]; decide)

/-- THE ONE PURE STATEMENT of apostillelaw7_NatPowers: yours. -/
def apostillelaw7_NatPowers.Pure : Prop := ∀ (a0 : Int) (a1 : Int), (Lit.int .i64 a0).wf = true → (Lit.int .i64 a1).wf = true → ∃ k, apostillelaw7_NatPowers.f k a0 a1 = some true
theorem apostillelaw7_NatPowers.walk (P : apostillelaw7_NatPowers.Pure) (a0 : Int) (a1 : Int) (w : World) (w0 : (Lit.int .i64 a0).wf = true) (w1 : (Lit.int .i64 a1).wf = true) :
    Calls Try.prog 7 #[.int .i64 a0, .int .i64 a1] w fun e w' => e = .returned (.bool true) ∧ Below w.heap.size w w' := by
  obtain ⟨k, h⟩ := P a0 a1 w0 w1
  refine (apostillelaw7_NatPowers.calls k a0 a1 true w rfl h).mono ?_
  rintro e w' ⟨rfl, hd⟩
  exact ⟨rfl, hd⟩

end Go.Proofs.Ytlmjbhhapllfgaa.A
