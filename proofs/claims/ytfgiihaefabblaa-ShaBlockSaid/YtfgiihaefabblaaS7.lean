import Derived.Test.YtfgiihaefabblaaSd
import Derived.StillTailTactics
import Derived.Test.YtfgiihaefabblaaS5
namespace Go.Proofs.Ytfgiihaefabblaa.A
open Go.RowKit Go.Proofs.YtfgiihaefabblaaW.PrintWords Go.Proofs.YtfgiihaefabblaaW.PrintLast Go.Proofs.YtfgiihaefabblaaW.PrintMore
attribute [local go_sem] max2_int min2_int max_two min_two max_three min_three max_four min_four
set_option linter.unusedVariables false
set_option linter.unusedSimpArgs false
/-! ### apostilleref6_Of: function 8 -/
mutual
def apostilleref6_pad.l0 : Nat → List Int → List Int → Option (List Int)
  | 0, _, _ => none
  | k + 1, x0, x3 => if ((x3.length : Int) % 64) = 56 then (apostilleref6_pad.l1 k x3 (IntKind.u64.wrap ((IntKind.u64.wrap ((x0.length : Int))) * 8)) 56) else (if x3.length < 140737488355328 then (apostilleref6_pad.l0 k x0 (x3 ++ [0])) else (none))
def apostilleref6_pad.l1 : Nat → List Int → Int → Int → Option (List Int)
  | 0, _, _, _ => none
  | k + 1, x3, x4, x5 => if x5 ≥ 0 then (if 0 ≤ (IntKind.u64.wrap (x5)) then (if x3.length < 140737488355328 then (apostilleref6_pad.l1 k (x3 ++ [(shr .u64 x4 (IntKind.u64.wrap (x5))) % 256]) x4 (wrap64 (x5 - 8))) else (none)) else (none)) else (some x3)
end
def apostilleref6_pad.f (k : Nat) (l0 : List Int) : Option (List Int) := (some (([] : List Int) : List Int)).bind fun y115 => (if y115.length + l0.length < 140737488355328 then ((some (y115 ++ l0 : List Int)).bind fun y118 => (if y118.length < 140737488355328 then (apostilleref6_pad.l0 k l0 (y118 ++ [128])) else (none))) else (none))
theorem apostilleref6_pad.mono_l : ∀ k, (∀ y0 y1, LeO (apostilleref6_pad.l0 k y0 y1) (apostilleref6_pad.l0 (k + 1) y0 y1)) ∧ (∀ y0 y1 y2, LeO (apostilleref6_pad.l1 k y0 y1 y2) (apostilleref6_pad.l1 (k + 1) y0 y1 y2))
  | 0 => ⟨fun _ _ r h => by simp [apostilleref6_pad.l0] at h, fun _ _ _ r h => by simp [apostilleref6_pad.l1] at h⟩
  | k + 1 => by
    obtain ⟨ih0, ih1⟩ := apostilleref6_pad.mono_l k
    refine ⟨?_, ?_⟩
    · intro y0 y1
      unfold apostilleref6_pad.l0
      repeat' first
      | (with_reducible exact ih0 _ _)
      | (with_reducible exact ih1 _ _ _)
      | (with_reducible exact LeO.refl _)
      | (with_reducible exact LeO.none _)
      | (with_reducible refine LeO.ite ?_ ?_)
      | (with_reducible refine LeO.bind ?_ (fun _ => ?_))
      | exact ih0 _ _
      | exact ih1 _ _ _
      | exact LeO.none _
      | refine LeO.ite ?_ ?_
      | refine LeO.bind ?_ (fun _ => ?_)
    · intro y0 y1 y2
      unfold apostilleref6_pad.l1
      repeat' first
      | (with_reducible exact ih0 _ _)
      | (with_reducible exact ih1 _ _ _)
      | (with_reducible exact LeO.refl _)
      | (with_reducible exact LeO.none _)
      | (with_reducible refine LeO.ite ?_ ?_)
      | (with_reducible refine LeO.bind ?_ (fun _ => ?_))
      | exact ih0 _ _
      | exact ih1 _ _ _
      | exact LeO.none _
      | refine LeO.ite ?_ ?_
      | refine LeO.bind ?_ (fun _ => ?_)
theorem apostilleref6_pad.mono : ∀ a0 k, LeO (apostilleref6_pad.f k a0) (apostilleref6_pad.f (k + 1) a0) := by
  intro a0 k
  obtain ⟨ih0, ih1⟩ := apostilleref6_pad.mono_l k
  unfold apostilleref6_pad.f
  repeat' first
      | (with_reducible exact ih0 _ _)
      | (with_reducible exact ih1 _ _ _)
      | (with_reducible exact LeO.refl _)
      | (with_reducible exact LeO.none _)
      | (with_reducible refine LeO.ite ?_ ?_)
      | (with_reducible refine LeO.bind ?_ (fun _ => ?_))
      | exact ih0 _ _
      | exact ih1 _ _ _
      | exact LeO.none _
      | refine LeO.ite ?_ ?_
      | refine LeO.bind ?_ (fun _ => ?_)
def apostilleref6_Of.f (k : Nat) (l0 : List Int) : Option (List Int) := (apostilleref6_pad.f k l0).bind digR
theorem apostilleref6_Of.mono : ∀ a0 k, LeO (apostilleref6_Of.f k a0) (apostilleref6_Of.f (k + 1) a0) := by
  intro a0 k
  unfold apostilleref6_Of.f
  exact LeO.bind (apostilleref6_pad.mono _ _) (fun _ => LeO.refl _)
set_option maxHeartbeats 8000000 in
set_option maxRecDepth 100000 in
theorem apostilleref6_Of.calls (k : Nat) (A0 : Option Addr) (c0 : Nat) (l0 : List Int) (r : List Int) (w : World) (hr0 : Kd.C (Kd.int .u8) w A0 l0.length l0) (hc0 : l0.length ≤ c0) (h : apostilleref6_Of.f k l0 = some r) :
    Calls Try.prog 8 #[.slice A0 l0.length c0] w fun e w' => ∃ v0_ : Value, e = .returned (v0_) ∧ Kd.R (Kd.int .u8) 5 w' w.heap.size (fun _ => True) v0_ r ∧ Below w.heap.size w w' := by
  obtain ⟨X_, hX_, hr_⟩ := Option.bind_eq_some_iff.mp h
  have HD_ := Aside0.mk hr_
  clear hr_
  have HR0 := Aside0.mk hr0
  have HC0 := Aside0.mk hc0
  clear hr0 hc0
  have HB := Aside0.mk (Below.refl w.heap.size w)
  have H : ((some (([] : List Int) : List Int)).bind fun y115 => (if y115.length + l0.length < 140737488355328 then ((some (y115 ++ l0 : List Int)).bind fun y118 => (if y118.length < 140737488355328 then (apostilleref6_pad.l0 k l0 (y118 ++ [128])) else (none))) else (none))) = some X_ := hX_
  clear h
  obtain ⟨y115, hy115⟩ : ∃ y_ : List Int, y_ = (([] : List Int)) := ⟨_, rfl⟩
  replace H : (if y115.length + l0.length < 140737488355328 then ((some (y115 ++ l0 : List Int)).bind fun y118 => (if y118.length < 140737488355328 then (apostilleref6_pad.l0 k l0 (y118 ++ [128])) else (none))) else (none)) = some X_ := by first | (rw [hy115]; with_reducible exact H) | (have H2_ := (Option.bind_some _ _).symm.trans H; rw [hy115]; with_reducible exact H2_) | (have H2_ := (Option.bind_some _ _).symm.trans H; with_reducible exact H2_) | with_reducible exact H | (rw [hy115]; exact H) | exact H
  have Ny115 := Aside0.mk hy115
  clear hy115
  by_cases c2 : y115.length + l0.length < 140737488355328
  · rw [if_pos c2] at H
    have LMc2 := Aside0.mk c2
    clear c2
    obtain ⟨y118, hy118⟩ : ∃ y_ : List Int, y_ = (y115 ++ l0) := ⟨_, rfl⟩
    replace H : (if y118.length < 140737488355328 then (apostilleref6_pad.l0 k l0 (y118 ++ [128])) else (none)) = some X_ := by first | (rw [hy118]; with_reducible exact H) | (have H2_ := (Option.bind_some _ _).symm.trans H; rw [hy118]; with_reducible exact H2_) | (have H2_ := (Option.bind_some _ _).symm.trans H; with_reducible exact H2_) | with_reducible exact H | (rw [hy118]; exact H) | exact H
    have Ny118 := Aside0.mk hy118
    clear hy118
    by_cases c3 : y118.length < 140737488355328
    · rw [if_pos c3] at H
      have LMc3 := Aside0.mk c3
      clear c3
      obtain ⟨y121, hy121⟩ : ∃ y_ : List Int, y_ = (y118 ++ [128]) := ⟨_, rfl⟩
      replace H : (apostilleref6_pad.l0 k l0 y121) = some X_ := by first | (rw [hy121]; with_reducible exact H) | (have H2_ := (Option.bind_some _ _).symm.trans H; rw [hy121]; with_reducible exact H2_) | (have H2_ := (Option.bind_some _ _).symm.trans H; with_reducible exact H2_) | with_reducible exact H | (rw [hy121]; exact H) | exact H
      have Ny121 := Aside0.mk hy121
      clear hy121
      have H' := Aside0.mk H
      clear H
      go_enter Try.func8, Try.ntmps8
      go_wp2_with (first | ((with_reducible refine gate_builtin (b := .append) (xs := #[.tmp 9, .tmp 10]) rfl ?_); (apply Classical.byContradiction; intro hcc_)) | ((with_reducible refine gate_dst (N := 9) rfl ?_); refine Kd.R_lit (Kd.int .u8) _ 5 ?hg (N := 9) ?hd (xs := ([] : List Int)) (inner := []) (ok := fun _ => True) (okp := fun _ => True) ?hr ?hp (fun _ hk => hk) trivial (Below.refl _ _) (Nat.le_refl _) (by simp) ?_; (case hd => rfl); (case hg => rfl); (case hr => first | (go_simp; done) | (go_simp; rfl)); (case hp => exact (Reps.none _ _)); intro v116 w4 ho5 hb hg_ hnew_; clear hg_ hnew_; (first | rw [← Ny115.out] at ho5 | (simp only [Int.reduceToNat] at ho5; rw [← Ny115.out] at ho5)); have n0_ := Aside0.mk (Kd.R_lower ho5 (below_size (by repeat (first | (with_reducible first | exact HB.out | apply below_alloc | apply pw_below_drewN | apply below_drew1) | exact HB.out)))); have n1_ := Aside0.mk (below_step (by repeat (first | (with_reducible first | exact HB.out | apply below_alloc | apply pw_below_drewN | apply below_drew1) | exact HB.out)) hb); clear HB; have HO117 := n0_; have HB := n1_; clear n0_ n1_; clear hb ho5))
      refine hcc_ ?_
      clear hcc_
      at_builtin
      refine Kd.R_append_rows (Kd.int .u8) (w0 := w) w.heap.size rfl (.tmp 9) (.tmp 10) 22 5 (.int .u8 0) 1 rfl Try.underlying22 info5 rfl (by decide) (by omega) v116 y115 l0 _ _ _ (fun _ => True) (fun _ => False) rfl rfl ?aO ?aR (fun _ _ h => h) (fun _ h => h.elim) ?aF ?aB ?aS ?aL ?_
      (case aR => repeat (first | exact (Kd.C_below HR0.out HB.out) | (with_reducible refine Kd.C_alloc ?_ _) | (with_reducible refine Kd.C_drewN ?_ _) | (with_reducible refine Kd.C_drew ?_)))
      (case aB => exact (by repeat (first | (with_reducible first | exact HB.out | apply below_alloc | apply pw_below_drewN | apply below_drew1) | exact HB.out)))
      (case aF => exact (fun _ _ => trivial))
      (case aO => exact (by (with_reducible repeat (first | apply Kd.R_alloc | apply Kd.R_drewN | apply Kd.R_drew)); exact HO117.out))
      (case aS => exact (below_size (by repeat (first | (with_reducible first | exact HB.out | apply below_alloc | apply pw_below_drewN | apply below_drew1) | exact HB.out))))
      (case aL => have := LMc2.out; omega)
      intro v119 w6 ho hb hg hat
      rw [← Ny118.out] at ho
      have n0_ := Aside0.mk (hb)
      have n1_ := Aside0.mk (ho)
      clear HB
      clear HO117
      have HB := n0_
      have HO120 := n1_
      clear n0_ n1_
      clear ho hb hg hat
      go_wp2_with (first | ((with_reducible refine gate_builtin (b := .append) (xs := #[.tmp 11, .tmp 12]) rfl ?_); (apply Classical.byContradiction; intro hcc_)) | ((with_reducible refine gate_dst (N := 9) rfl ?_); refine Kd.R_lit (Kd.int .u8) _ 5 ?hg (N := 9) ?hd (xs := ([] : List Int)) (inner := []) (ok := fun _ => True) (okp := fun _ => True) ?hr ?hp (fun _ hk => hk) trivial (Below.refl _ _) (Nat.le_refl _) (by simp) ?_; (case hd => rfl); (case hg => rfl); (case hr => first | (go_simp; done) | (go_simp; rfl)); (case hp => exact (Reps.none _ _)); intro v116 w4 ho5 hb hg_ hnew_; clear hg_ hnew_; (first | rw [← Ny115.out] at ho5 | (simp only [Int.reduceToNat] at ho5; rw [← Ny115.out] at ho5)); have n0_ := Aside0.mk (Kd.R_lower ho5 (below_size (by repeat (first | (with_reducible first | exact HB.out | apply below_alloc | apply pw_below_drewN | apply below_drew1) | exact HB.out)))); have n1_ := Aside0.mk (below_step (by repeat (first | (with_reducible first | exact HB.out | apply below_alloc | apply pw_below_drewN | apply below_drew1) | exact HB.out)) hb); clear HB; have HO117 := n0_; have HB := n1_; clear n0_ n1_; clear hb ho5))
      refine hcc_ ?_
      clear hcc_
      at_builtin
      refine Kd.R_append (Kd.int .u8) (w0 := w) w.heap.size rfl (.tmp 11) (.tmp 12) 22 5 (.int .u8 0) 1 rfl Try.underlying22 info5 rfl (by decide) (by omega) v119 y118 128 [.int .u8 128] (fun _ => True) (fun _ => False) rfl rfl ?aP (fun _ hk => hk.elim) ?aF ?aO ?aB ?aS ?aL ?_
      (case aP => exact rfl)
      (case aB => exact (by repeat (first | (with_reducible first | exact HB.out | apply below_alloc | apply pw_below_drewN | apply below_drew1) | exact HB.out)))
      (case aF => exact (fun _ _ => trivial))
      (case aO => exact (by (with_reducible repeat (first | apply Kd.R_alloc | apply Kd.R_drewN | apply Kd.R_drew)); exact HO120.out))
      (case aS => exact (below_size (by repeat (first | (with_reducible first | exact HB.out | apply below_alloc | apply pw_below_drewN | apply below_drew1) | exact HB.out))))
      (case aL => have := LMc3.out; omega)
      intro v122 w7 ho hb hg hat
      rw [← Ny121.out] at ho
      have n0_ := Aside0.mk (hb)
      have n1_ := Aside0.mk (ho)
      clear HB
      clear HO120
      have HB := n0_
      have HO123 := n1_
      clear n0_ n1_
      clear ho hb hg hat
      go_wp2_with (first | ((with_reducible refine gate_dst (N := 9) rfl ?_); refine Kd.R_lit (Kd.int .u8) _ 5 ?hg (N := 9) ?hd (xs := ([] : List Int)) (inner := []) (ok := fun _ => True) (okp := fun _ => True) ?hr ?hp (fun _ hk => hk) trivial (Below.refl _ _) (Nat.le_refl _) (by simp) ?_; (case hd => rfl); (case hg => rfl); (case hr => first | (go_simp; done) | (go_simp; rfl)); (case hp => exact (Reps.none _ _)); intro v116 w4 ho5 hb hg_ hnew_; clear hg_ hnew_; (first | rw [← Ny115.out] at ho5 | (simp only [Int.reduceToNat] at ho5; rw [← Ny115.out] at ho5)); have n0_ := Aside0.mk (Kd.R_lower ho5 (below_size (by repeat (first | (with_reducible first | exact HB.out | apply below_alloc | apply pw_below_drewN | apply below_drew1) | exact HB.out)))); have n1_ := Aside0.mk (below_step (by repeat (first | (with_reducible first | exact HB.out | apply below_alloc | apply pw_below_drewN | apply below_drew1) | exact HB.out)) hb); clear HB; have HO117 := n0_; have HB := n1_; clear n0_ n1_; clear hb ho5) )
      go_loopg [3] k (fun kq v3 w' => ∃ (x3_1 : List Int), Aside0 (apostilleref6_pad.l0 kq l0 x3_1 = some X_) ∧ Aside0 (kq ≤ k) ∧ Aside0 (Kd.R (Kd.int .u8) 5 w' w.heap.size (fun _ => True) v3 x3_1) ∧ Aside0 (Below w.heap.size w w'))
      case atStart => exact ⟨(y121), H', ⟨Nat.le_refl _⟩, ⟨by (with_reducible repeat (first | apply Kd.R_alloc | apply Kd.R_drewN | apply Kd.R_drew)); (first | exact HO123.out | exact Kd.R_mono HO123.out (fun k_ h_ => h_.1))⟩, ⟨by repeat (first | (with_reducible first | exact HB.out | apply below_alloc | apply pw_below_drewN | apply below_drew1) | exact HB.out)⟩⟩
      case round =>
        clear H'
        try clear c2
        try clear p2
        try clear c3
        obtain ⟨x3_1, HA, HK1, HO_3, HB⟩ := hrel
        cases gk with
        | zero => exact absurd HA.out (by simp [apostilleref6_pad.l0])
        | succ k1 =>
          have H := HA.out
          clear HA
          simp only [apostilleref6_pad.l0] at H
          by_cases c8 : ((x3_1.length : Int) % 64) = 56
          · rw [if_pos c8] at H
            have c8b0 : (((x3_1.length : Int) % 64) == 56) = true := beq_iff_eq.mpr c8
            have c8b1 : (((x3_1.length : Int) % 64) != 56) = false := bne_eq_false_iff_eq.mpr c8
            clear c8
            have H' := Aside0.mk H
            clear H
            obtain ⟨Ao9, co9, eo9⟩ := Kd.R_slice HO_3.out
            subst eo9
            go_wp2
            go_loopg [3, 5] k1 (fun kq v3 v5 w' => ∃ (x3_2 : List Int) (x5_2 : Int), v5 = .int .i64 x5_2 ∧ Aside0 (apostilleref6_pad.l1 kq x3_2 (IntKind.u64.wrap ((IntKind.u64.wrap ((l0.length : Int))) * 8)) x5_2 = some X_) ∧ Aside0 (kq ≤ k1) ∧ Aside0 (Kd.R (Kd.int .u8) 5 w' w.heap.size (fun _ => True) v3 x3_2) ∧ Aside0 (Below w.heap.size w w'))
            case atStart => exact ⟨(x3_1), (56), (by first | rfl | (simp; done) | (simp [*]; done)), H', ⟨Nat.le_refl _⟩, ⟨by (with_reducible repeat (first | apply Kd.R_alloc | apply Kd.R_drewN | apply Kd.R_drew)); (first | exact HO_3.out | exact Kd.R_mono HO_3.out (fun k_ h_ => h_.1))⟩, ⟨by repeat (first | (with_reducible first | exact HB.out | apply below_alloc | apply pw_below_drewN | apply below_drew1) | exact HB.out)⟩⟩
            case round =>
              clear H'
              try clear c2
              try clear p2
              try clear c3
              try clear c8
              try clear c8b0
              try clear c8b1
              try clear p2
              obtain ⟨x3_2, x5_2, rfl, HA, HK2, HO_3, HB⟩ := hrel
              cases gk with
              | zero => exact absurd HA.out (by simp [apostilleref6_pad.l1])
              | succ k2 =>
                have H := HA.out
                clear HA
                simp only [apostilleref6_pad.l1] at H
                by_cases c10 : x5_2 ≥ 0
                · rw [if_pos c10] at H
                  have c10b0 : decide (0 ≤ x5_2) = true := decide_eq_true c10
                  clear c10
                  obtain ⟨ji11, hji11⟩ : ∃ j_ : Int, (IntKind.u64.wrap (x5_2)) = j_ := ⟨_, rfl⟩
                  replace H : (if 0 ≤ (ji11) then (if x3_2.length < 140737488355328 then (apostilleref6_pad.l1 k2 (x3_2 ++ [(shr .u64 (IntKind.u64.wrap ((IntKind.u64.wrap ((l0.length : Int))) * 8)) (ji11)) % 256]) (IntKind.u64.wrap ((IntKind.u64.wrap ((l0.length : Int))) * 8)) (wrap64 (x5_2 - 8))) else (none)) else (none)) = some X_ := by first | (rw [hji11] at H; exact H) | (simp only [hji11] at H ⊢; exact H)
                  by_cases c12 : 0 ≤ (ji11)
                  · rw [if_pos c12] at H
                    have c12b0 := eq_true c12
                    have c12b1 : decide (0 ≤ (ji11)) = true := decide_eq_true c12
                    clear c12
                    obtain ⟨ji13, hji13⟩ : ∃ j_ : Int, (shr .u64 (IntKind.u64.wrap ((IntKind.u64.wrap ((l0.length : Int))) * 8)) (ji11)) = j_ := ⟨_, rfl⟩
                    replace H : (if x3_2.length < 140737488355328 then (apostilleref6_pad.l1 k2 (x3_2 ++ [(ji13) % 256]) (IntKind.u64.wrap ((IntKind.u64.wrap ((l0.length : Int))) * 8)) (wrap64 (x5_2 - 8))) else (none)) = some X_ := by first | (rw [hji13] at H; exact H) | (simp only [hji13] at H ⊢; exact H)
                    have hji13_ : ((IntKind.u64.wrap ((IntKind.u64.wrap ((l0.length : Int))) * 8)) / 2 ^ min (ji11).toNat 64) = ji13 := hji13
                    have hji13z : (ji11) ≤ 64 → ((IntKind.u64.wrap ((IntKind.u64.wrap ((l0.length : Int))) * 8)) / 2 ^ (ji11).toNat) = ji13 := shr_small hji13
                    by_cases c14 : x3_2.length < 140737488355328
                    · rw [if_pos c14] at H
                      have LMc14 := Aside0.mk c14
                      clear c14
                      obtain ⟨y127, hy127⟩ : ∃ y_ : List Int, y_ = (x3_2 ++ [(ji13) % 256]) := ⟨_, rfl⟩
                      replace H : (apostilleref6_pad.l1 k2 y127 (IntKind.u64.wrap ((IntKind.u64.wrap ((l0.length : Int))) * 8)) (wrap64 (x5_2 - 8))) = some X_ := by first | (rw [hy127]; with_reducible exact H) | (have H2_ := (Option.bind_some _ _).symm.trans H; rw [hy127]; with_reducible exact H2_) | (have H2_ := (Option.bind_some _ _).symm.trans H; with_reducible exact H2_) | with_reducible exact H | (rw [hy127]; exact H) | exact H
                      have Ny127 := Aside0.mk hy127
                      clear hy127
                      have H' := Aside0.mk H
                      clear H
                      go_wp2_with (first | ((with_reducible refine gate_builtin (b := .append) (xs := #[.tmp 29, .tmp 35]) rfl ?_); (apply Classical.byContradiction; intro hcc_)))
                      refine hcc_ ?_
                      clear hcc_
                      at_builtin
                      refine Kd.R_append (Kd.int .u8) (w0 := w) w.heap.size rfl (.tmp 29) (.tmp 35) 22 5 (.int .u8 0) 1 rfl Try.underlying22 info5 rfl (by decide) (by omega) u3 x3_2 ((ji13) % 256) [.int .u8 ((ji13) % 256)] (fun _ => True) (fun _ => False) rfl rfl ?aP (fun _ hk => hk.elim) ?aF ?aO ?aB ?aS ?aL ?_
                      (case aP => exact rfl)
                      (case aB => exact (by repeat (first | (with_reducible first | exact HB.out | apply below_alloc | apply pw_below_drewN | apply below_drew1) | exact HB.out)))
                      (case aF => exact (fun _ _ => trivial))
                      (case aO => exact (by (with_reducible repeat (first | apply Kd.R_alloc | apply Kd.R_drewN | apply Kd.R_drew)); exact HO_3.out))
                      (case aS => exact (below_size (by repeat (first | (with_reducible first | exact HB.out | apply below_alloc | apply pw_below_drewN | apply below_drew1) | exact HB.out))))
                      (case aL => have := LMc14.out; omega)
                      intro v128 w15 ho hb hg hat
                      rw [← Ny127.out] at ho
                      have n0_ := Aside0.mk (hb)
                      have n1_ := Aside0.mk (ho)
                      clear HB
                      clear HO_3
                      have HB := n0_
                      have HO129 := n1_
                      clear n0_ n1_
                      clear ho hb hg hat
                      go_wp2
                      go_roundg k2
                      case measure => have := HK1.out; have := HK2.out; omega
                      case rel => exact ⟨(y127), (wrap64 (x5_2 - 8)), (by first | rfl | (simp; done) | (simp [*]; done)), H', ⟨by have := HK1.out; have := HK2.out; omega⟩, ⟨by (with_reducible repeat (first | apply Kd.R_alloc | apply Kd.R_drewN | apply Kd.R_drew)); (first | exact HO129.out | exact Kd.R_mono HO129.out (fun k_ h_ => h_.1))⟩, ⟨by repeat (first | (with_reducible first | exact HB.out | apply below_alloc | apply pw_below_drewN | apply below_drew1) | exact HB.out)⟩⟩
                    · rw [if_neg c14] at H
                      exact absurd H (by simp)
                  · rw [if_neg c12] at H
                    exact absurd H (by simp)
                · rw [if_neg c10] at H
                  have c10b0 : decide (0 ≤ x5_2) = false := decide_eq_false c10
                  clear c10
                  obtain rfl := Option.some.inj H
                  obtain ⟨m_, hm_, hs_, hr_⟩ := digO_some (digR_some HD_.out).2
                  obtain ⟨Ao_, co_, eo_⟩ := Kd.R_slice HO_3.out
                  subst eo_
                  obtain ⟨_, hn_, hC_⟩ := Kd.R_reads' HO_3.out
                  obtain ⟨W0, eW0⟩ : ∃ W0, W0 = wr := ⟨_, rfl⟩
                  have HW := Aside0.mk (show Below W0.heap.size W0 wr by rw [eW0]; exact Below.refl _ _)
                  have HC := Aside0.mk (show Kd.C (Kd.int .u8) W0 Ao_ x3_2.length x3_2 by rw [eW0]; exact hC_)
                  have HM := Aside0.mk (And.intro hm_ (And.intro hn_ hs_))
                  have HRr := Aside0.mk hr_
                  clear hm_ hr_ hn_ hC_ hs_ eW0
                  go_wp2_with (first
                    | ((with_reducible refine gate_dst (N := 37) rfl ?_); refine ar_build_step 37 rfl rfl 28 _ rfl iv (by kernel_rfl) ?_)
                    | ((with_reducible refine gate_dst (N := 6) rfl ?_); refine box_event rfl (N := 6) rfl (cs := ar (List.replicate 8 0)) (t := 28) ?hr ?_; (case hr => first | (go_simp; done) | (go_simp; rfl)); intro g6 eg_ w6_ hc_ hb_; skip; have G6 := Aside0.mk (show w.heap.size ≤ g6 by have := HB.out.size; omega); have n_ := Aside0.mk (below_step HB.out hb_); clear HB; have HB := n_; clear n_; have KW := Aside0.mk (show W0.heap.size ≤ g6 by have := HW.out.size; omega); have n_ := Aside0.mk (below_step HW.out hb_); clear HW; have HW := n_; clear n_; have H6 : Aside0 (AR w6_ g6 28 8 (List.replicate 8 0)) := ⟨⟨rfl, hc_⟩⟩; clear hc_ hb_ eg_)
                    | ((with_reducible refine gate_store (t := 28) (p := 6) rfl ?_); refine ar_store_step rfl rfl 28 _ _ rfl g6 28 8 _ (iv) rfl rfl H6.out rfl (by kernel_rfl) ?_; intro w6p_ hw_; have n_ : Aside0 (AR w6p_ g6 28 8 (iv)) := ⟨by rw [hw_]; exact H6.out.put (iv) rfl⟩; clear H6; have H6 := n_; clear n_; have n_ : Aside0 (Below w.heap.size w w6p_) := ⟨by rw [hw_]; exact below_put HB.out G6.out⟩; clear HB; have HB := n_; clear n_; have n_ : Aside0 (Below W0.heap.size W0 w6p_) := ⟨by rw [hw_]; exact below_put HW.out KW.out⟩; clear HW; have HW := n_; clear n_; clear hw_))
                  go_loopg [3] m_ (fun kq v3 w' => ∃ (A : Option Addr) (n c : Nat) (xs hv : List Int), v3 = .slice A n c ∧ Aside0 (n = xs.length ∧ n ≤ c ∧ n = 64 * kq) ∧ Aside0 (Kd.C (Kd.int .u8) W0 A xs.length xs) ∧ Aside0 (hv.length = 8 ∧ r = outP (blks kq hv xs) 8 ∧ bytesB xs = true) ∧ Aside0 (AR w' g6 28 8 hv) ∧ Aside0 (Below w.heap.size w w') ∧ Aside0 (Below W0.heap.size W0 w'))
                  case atStart => exact ⟨_, _, _, _, iv, rfl, ⟨rfl, HM.out.2.1, HM.out.1⟩, HC, ⟨rfl, HRr.out, (digR_some HD_.out).1⟩, H6, HB, HW⟩
                  case round =>
                    clear HC H6 HB HW HO_3 HRr HM
                    obtain ⟨A, n, c, xs, hv, rfl, HX, HC, HH, H6, HB, HW⟩ := hrel
                    obtain ⟨hn, hc, hk⟩ := HX.out
                    cases gk with
                    | zero =>
                      obtain rfl : n = 0 := by omega
                      have HHv := Aside0.mk (And.intro HH.out.1 HH.out.2.1)
                      clear hn hc hk
                      go_wp2_with fail
                      clear HW HC HX
                      go_loopg [7, 8] 8 (fun kq v7 v8 w' => ∃ (i : Nat) (x : Int), v8 = .int .i64 x ∧ Aside0 (x = i ∧ i + kq = 8) ∧ Aside0 (Kd.R (Kd.int .u8) 5 w' w.heap.size (fun _ => True) v7 (outP hv i)) ∧ Aside0 (AR w' g6 28 8 hv) ∧ Aside0 (Below w.heap.size w w'))
                      case atStart => exact ⟨0, 0, rfl, ⟨rfl, rfl⟩, ⟨Kd.R_nil _ _ _ _ _⟩, H6, HB⟩
                      case round =>
                        clear HB H6
                        obtain ⟨i, x, rfl, HX, HO_7, H6, HB⟩ := hrel
                        obtain ⟨hx, hi⟩ := HX.out
                        cases gk with
                        | zero =>
                          have c1 : decide (x < 8) = false := decide_eq_false (by omega)
                          obtain rfl : i = 8 := by omega
                          clear hx hi
                          go_wp2
                          go_ret
                          exact ⟨_, rfl, (by have h_ := HHv.out.2; rw [h_]; exact HO_7.out), HB.out⟩
                        | succ k6 =>
                          have c1 : decide (x < 8) = true := decide_eq_true (by omega)
                          have p0 : (0 ≤ x) = True := eq_true (by omega)
                          have p1 : (x < 8) = True := eq_true (by omega)
                          have a0 := H6.out.cell x.toNat (by omega)
                          obtain ⟨X, hX⟩ : ∃ X, hv.getD x.toNat 0 = X := ⟨_, rfl⟩
                          rw [hX] at a0
                          have HX := Aside0.mk (And.intro hx (And.intro hi hX))
                          clear hx hi hX
                          go_wp2_with fail
                          have HL9 := Aside0.mk (show (outP hv i).length ≤ 100 by have h1_ := outP_len hv i; have := HX.out.2.1; omega)
                          have EY := Aside0.mk (show [IntKind.u8.wrap (X / 16777216), IntKind.u8.wrap (X / 65536), IntKind.u8.wrap (X / 256), IntKind.u8.wrap X] = wb X by simp only [wrap_u8_mod, wb])
                          have HO_a := Aside0.mk (fun o => Kd.R_drew (Kd.R_alloc HO_7.out o))
                          have HB_a := Aside0.mk (fun o => below_drew1 (below_alloc HB.out o))
                          have HC_a := Aside0.mk (Kd.C_drew (C_lit .u8 [IntKind.u8.wrap (X / 16777216), IntKind.u8.wrap (X / 65536), IntKind.u8.wrap (X / 256), IntKind.u8.wrap X] wr 5 (by show 0 < 4; omega) (by show 4 ≤ _; omega)))
                          go_region_held3 (fun w' => w'.cell? ⟨g6, x.toNat, none⟩ = some (.int .u32 X)) (first | exact a0 | exact s9_ | go_keep) ((refine Kd.R_append_rows_step (Kd.int .u8) (w0 := w) w.heap.size (by rfl) (.tmp 51) (.tmp 71) 22 5 (.int .u8 0) 1 (by rfl) Try.underlying22 info5 rfl (by decide) (by omega) u7 (outP hv i) [IntKind.u8.wrap (X / 16777216), IntKind.u8.wrap (X / 65536), IntKind.u8.wrap (X / 256), IntKind.u8.wrap X] (some ⟨wr.heap.size, 0, none⟩) 4 4 (fun _ => True) (fun _ => False) (by rfl) (by rfl) (HO_a.out _) HC_a.out (fun _ _ h => h) (fun _ h => h.elim) (fun _ _ => trivial) (HB_a.out _) (below_size (HB_a.out _)) (by have := HL9.out; omega) ?_; intro v9_ w9_ ho hb hg hat; have n2_ : Aside0 (AR w9_ g6 28 8 hv) := ⟨HHv.out.1, by rw [hg.block g6 (by show _ < (wr.heap.push _).size; rw [Array.size_push]; have := H6.out.lt; omega) (Kd.R_ne HO_7.out H6.out.2 (by decide))]; exact ((H6.out.alloc _).drew).2⟩; rw [EY.out] at ho; have n0_ := Aside0.mk (hb); have n1_ := Aside0.mk (ho); clear HB HO_7 H6 ho hb hg hat HO_a HB_a HC_a; have HB := n0_; have HO_7 := n1_; have H6 := n2_; clear n0_ n1_ n2_; have s9_ := H6.out.cell x.toNat (by have := HX.out.1; have := HX.out.2.1; omega); rw [HX.out.2.2] at s9_))
                          clear a0 s9_
                          go_wp2
                          go_roundg k6
                          case measure => omega
                          case rel =>
                            obtain ⟨hx, hi, hX⟩ := HX.out
                            refine ⟨i + 1, _, rfl, ⟨?_, by omega⟩, ⟨?_⟩, H6, HB⟩
                            · show wrap64 (x + 1) = _
                              rw [← i64_w, i64_of _ (by omega) (by omega)]; omega
                            · have ex : x.toNat = i := by omega
                              have h_ := HO_7.out
                              rw [outP]
                              unfold gw
                              rw [← ex, hX]
                              rw [ex]
                              exact h_
                    | succ k5 =>
                      obtain ⟨hl8, hr8, hby⟩ := HH.out
                      obtain ⟨y0, y1, y2, y3, y4, y5, y6, y7, rfl⟩ := eight hl8
                      obtain ⟨z0, z1, z2, z3, z4, z5, z6, z7, hz⟩ := eight (block_len [y0, y1, y2, y3, y4, y5, y6, y7] (xs.take 64) rfl)
                      have ht : (xs.take 64).length = 64 := by rw [List.length_take]; omega
                      have CALL := Aside0.mk (show ∀ W : World, Below W0.heap.size W0 W → Calls Try.prog 11 #[.agg #[.int .u32 y0, .int .u32 y1, .int .u32 y2, .int .u32 y3, .int .u32 y4, .int .u32 y5, .int .u32 y6, .int .u32 y7], .slice A 64 c] W fun e w' => e = .returned (.agg #[.int .u32 z0, .int .u32 z1, .int .u32 z2, .int .u32 z3, .int .u32 z4, .int .u32 z5, .int .u32 z6, .int .u32 z7]) ∧ Below W.heap.size W w' from fun W hW => by
                        have h1 := apostilleref6_Block.calls [y0, y1, y2, y3, y4, y5, y6, y7] rfl A c (xs.take 64) W (Kd.C_take (Kd.C_below HC.out hW) (by omega)) (by omega) (bytes_rd (bytes_take hby _))
                        rw [hz, ht] at h1
                        exact h1)
                      have a0 := H6.out.cell 0 (by omega)
                      have a1 := H6.out.cell 1 (by omega)
                      have a2 := H6.out.cell 2 (by omega)
                      have a3 := H6.out.cell 3 (by omega)
                      have a4 := H6.out.cell 4 (by omega)
                      have a5 := H6.out.cell 5 (by omega)
                      have a6 := H6.out.cell 6 (by omega)
                      have a7 := H6.out.cell 7 (by omega)
                      simp only [List.getD_cons_zero, List.getD_cons_succ] at a0 a1 a2 a3 a4 a5 a6 a7
                      have cz : (0 < n) = True := eq_true (by omega)
                      have sl : ((64 : Int) ≤ (c : Int)) = True := eq_true (by omega)
                      have HV := Aside0.mk (And.intro hn (And.intro hc (And.intro hk (And.intro hr8 (And.intro hz hby)))))
                      clear hn hc hk hl8 hr8 hz ht hby
                      go_wp2_with fail
                      go_still_tail 3, (by kernel_rfl)
                      change wpList _ _ _ _ _ wr.drew
                      have n1_ := Aside0.mk (H6.out.drew)
                      have n2_ := Aside0.mk (below_drew1 HB.out)
                      have n3_ := Aside0.mk (below_drew1 HW.out)
                      clear H6 HB HW a0 a1 a2 a3 a4 a5 a6 a7 cz sl
                      generalize wr.drew = wd at n1_ n2_ n3_ ⊢
                      have H6 := n1_
                      have HB := n2_
                      have HW := n3_
                      clear n1_ n2_ n3_
                      go_wp2_with (first
                        | ((with_reducible refine gate_callee (f := 11) rfl ?_); refine goesL_ (some 44) rfl rfl Try.func11 (by kernel_rfl) rfl #[.agg #[.int .u32 y0, .int .u32 y1, .int .u32 y2, .int .u32 y3, .int .u32 y4, .int .u32 y5, .int .u32 y6, .int .u32 y7], .slice A 64 c] rfl (by (try simp only [List.map_toArray, List.map_cons, List.map_nil]); first | done | rfl) ?_; (with_reducible refine (CALL.out _ HW.out).mono ?_); rintro e w44c_ ⟨rfl, hb_⟩; refine ⟨_, rfl, ?_⟩; have n_ := Aside0.mk (H6.out.below hb_); clear H6; have H6 := n_; clear n_; have n_ := Aside0.mk (below_step HB.out hb_); clear HB; have HB := n_; clear n_; have n_ := Aside0.mk (below_step HW.out hb_); clear HW; have HW := n_; clear n_; clear hb_)
                        | ((with_reducible refine gate_store (t := 28) (p := 6) rfl ?_); refine ar_store_step rfl rfl 28 _ _ rfl g6 28 8 _ ([z0, z1, z2, z3, z4, z5, z6, z7]) rfl rfl H6.out rfl (by kernel_rfl) ?_; intro w6p_ hw_; have n_ : Aside0 (AR w6p_ g6 28 8 ([z0, z1, z2, z3, z4, z5, z6, z7])) := ⟨by rw [hw_]; exact H6.out.put ([z0, z1, z2, z3, z4, z5, z6, z7]) rfl⟩; clear H6; have H6 := n_; clear n_; have n_ : Aside0 (Below w.heap.size w w6p_) := ⟨by rw [hw_]; exact below_put HB.out G6.out⟩; clear HB; have HB := n_; clear n_; have n_ : Aside0 (Below W0.heap.size W0 w6p_) := ⟨by rw [hw_]; exact below_put HW.out KW.out⟩; clear HW; have HW := n_; clear n_; clear hw_)
                        | ((with_reducible refine gate_dst (N := 46) rfl ?_); refine slice_from_step 46 rfl rfl 22 _ _ rfl A n c 64 rfl rfl ?hs1 ?hs2 5 Try.underlying22 (by kernel_rfl) ?_; (case hs1 => have := HV.out.2.2.1; omega); (case hs2 => exact HV.out.2.1); intro A2 hA2_; have HA2 := Aside0.mk hA2_; clear hA2_))
                      go_roundg k5
                      case measure => omega
                      case rel =>
                        obtain ⟨hn, hc, hk, hr8, hz, hby⟩ := HV.out
                        have hd := Kd.C_drop (m := 64) (c := c) HC.out (by omega) (by omega)
                        have hsz : (Kd.int IntKind.u8).sz = 1 := rfl
                        rw [hsz, Nat.mul_one, ← HA2.out] at hd
                        refine ⟨A2, n - 64, c - 64, xs.drop 64, [z0, z1, z2, z3, z4, z5, z6, z7], rfl, ⟨by rw [List.length_drop]; omega, by omega, by omega⟩, ⟨hd⟩, ⟨rfl, ?_, bytes_drop hby _⟩, H6, HB, HW⟩
                        rw [hr8, blks, hz]
          · rw [if_neg c8] at H
            have c8b0 : (((x3_1.length : Int) % 64) == 56) = false := beq_eq_false_iff_ne.mpr c8
            have c8b1 : (((x3_1.length : Int) % 64) != 56) = true := bne_iff_ne.mpr c8
            by_cases c16 : x3_1.length < 140737488355328
            · rw [if_pos c16] at H
              have LMc16 := Aside0.mk c16
              clear c16
              obtain ⟨y124, hy124⟩ : ∃ y_ : List Int, y_ = (x3_1 ++ [0]) := ⟨_, rfl⟩
              replace H : (apostilleref6_pad.l0 k1 l0 y124) = some X_ := by first | (rw [hy124]; with_reducible exact H) | (have H2_ := (Option.bind_some _ _).symm.trans H; rw [hy124]; with_reducible exact H2_) | (have H2_ := (Option.bind_some _ _).symm.trans H; with_reducible exact H2_) | with_reducible exact H | (rw [hy124]; exact H) | exact H
              have Ny124 := Aside0.mk hy124
              clear hy124
              have H' := Aside0.mk H
              clear H
              obtain ⟨Ao17, co17, eo17⟩ := Kd.R_slice HO_3.out
              subst eo17
              go_wp2_with (first | ((with_reducible refine gate_builtin (b := .append) (xs := #[.tmp 18, .tmp 19]) rfl ?_); (apply Classical.byContradiction; intro hcc_)))
              refine hcc_ ?_
              clear hcc_
              at_builtin
              refine Kd.R_append (Kd.int .u8) (w0 := w) w.heap.size rfl (.tmp 18) (.tmp 19) 22 5 (.int .u8 0) 1 rfl Try.underlying22 info5 rfl (by decide) (by omega) (.slice Ao17 x3_1.length co17) x3_1 0 [.int .u8 0] (fun _ => True) (fun _ => False) rfl rfl ?aP (fun _ hk => hk.elim) ?aF ?aO ?aB ?aS ?aL ?_
              (case aP => exact rfl)
              (case aB => exact (by repeat (first | (with_reducible first | exact HB.out | apply below_alloc | apply pw_below_drewN | apply below_drew1) | exact HB.out)))
              (case aF => exact (fun _ _ => trivial))
              (case aO => exact (by (with_reducible repeat (first | apply Kd.R_alloc | apply Kd.R_drewN | apply Kd.R_drew)); exact HO_3.out))
              (case aS => exact (below_size (by repeat (first | (with_reducible first | exact HB.out | apply below_alloc | apply pw_below_drewN | apply below_drew1) | exact HB.out))))
              (case aL => have := LMc16.out; omega)
              intro v125 w18 ho hb hg hat
              rw [← Ny124.out] at ho
              have n0_ := Aside0.mk (hb)
              have n1_ := Aside0.mk (ho)
              clear HB
              clear HO_3
              have HB := n0_
              have HO126 := n1_
              clear n0_ n1_
              clear ho hb hg hat
              go_wp2
              go_roundg k1
              case measure => have := HK1.out; omega
              case rel => exact ⟨(y124), H', ⟨by have := HK1.out; omega⟩, ⟨by (with_reducible repeat (first | apply Kd.R_alloc | apply Kd.R_drewN | apply Kd.R_drew)); (first | exact HO126.out | exact Kd.R_mono HO126.out (fun k_ h_ => h_.1))⟩, ⟨by repeat (first | (with_reducible first | exact HB.out | apply below_alloc | apply pw_below_drewN | apply below_drew1) | exact HB.out)⟩⟩
            · rw [if_neg c16] at H
              exact absurd H (by simp)
    · rw [if_neg c3] at H
      exact absurd H (by simp)
  · rw [if_neg c2] at H
    exact absurd H (by simp)

end Go.Proofs.Ytfgiihaefabblaa.A
