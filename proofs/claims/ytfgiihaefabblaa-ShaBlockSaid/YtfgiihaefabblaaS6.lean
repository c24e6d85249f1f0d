import Derived.Test.YtfgiihaefabblaaSd
import Derived.StillTailTactics
import Derived.Test.YtfgiihaefabblaaS4
namespace Go.Proofs.Ytfgiihaefabblaa.A
open Go.RowKit Go.Proofs.YtfgiihaefabblaaW.PrintWords Go.Proofs.YtfgiihaefabblaaW.PrintLast Go.Proofs.YtfgiihaefabblaaW.PrintMore
attribute [local go_sem] max2_int min2_int max_two min_two max_three min_three max_four min_four
set_option linter.unusedVariables false
set_option linter.unusedSimpArgs false
/-! ### sha_Of: function 7 -/
mutual
def sha_pad.l0 : Nat → List Int → List (List Int) → Int → Int → Option (List Int)
  | 0, _, _, _, _ => none
  | k + 1, x3, x13, x14, x15 => if x15 < x14 then (if 0 ≤ x15 then (if x15 < (x13.length : Int) then (if x3.length + (rd_L1 x13 x15).length < 140737488355328 then (sha_pad.l0 k (x3 ++ (rd_L1 x13 x15)) x13 x14 (wrap64 (x15 + 1))) else (none)) else (none)) else (none)) else (if x3.length < 140737488355328 then (sha_pad.l1 k (x3 ++ [128]) (IntKind.u64.wrap ((IntKind.u64.wrap ((x3.length : Int))) * 8))) else (none))
def sha_pad.l1 : Nat → List Int → Int → Option (List Int)
  | 0, _, _ => none
  | k + 1, x3, x6 => if ((x3.length : Int) % 64) = 56 then (sha_pad.l2 k x3 x6 7) else (if x3.length < 140737488355328 then (sha_pad.l1 k (x3 ++ [0]) x6) else (none))
def sha_pad.l2 : Nat → List Int → Int → Int → Option (List Int)
  | 0, _, _, _ => none
  | k + 1, x3, x6, x7 => if x7 ≥ 0 then (if 0 ≤ (wrap64 (8 * x7)) then (if x3.length < 140737488355328 then (sha_pad.l2 k (x3 ++ [(shr .u64 x6 (wrap64 (8 * x7))) % 256]) x6 (wrap64 (x7 - 1))) else (none)) else (none)) else (some x3)
end
def sha_pad.f (k : Nat) (l0 : List (List Int)) : Option (List Int) := sha_pad.l0 k ([] : List Int) l0 (l0.length : Int) 0
theorem sha_pad.mono_l : ∀ k, (∀ y0 y1 y2 y3, LeO (sha_pad.l0 k y0 y1 y2 y3) (sha_pad.l0 (k + 1) y0 y1 y2 y3)) ∧ (∀ y0 y1, LeO (sha_pad.l1 k y0 y1) (sha_pad.l1 (k + 1) y0 y1)) ∧ (∀ y0 y1 y2, LeO (sha_pad.l2 k y0 y1 y2) (sha_pad.l2 (k + 1) y0 y1 y2))
  | 0 => ⟨fun _ _ _ _ r h => by simp [sha_pad.l0] at h, fun _ _ r h => by simp [sha_pad.l1] at h, fun _ _ _ r h => by simp [sha_pad.l2] at h⟩
  | k + 1 => by
    obtain ⟨ih0, ih1, ih2⟩ := sha_pad.mono_l k
    refine ⟨?_, ?_, ?_⟩
    · intro y0 y1 y2 y3
      unfold sha_pad.l0
      repeat' first
      | (with_reducible exact ih0 _ _ _ _)
      | (with_reducible exact ih1 _ _)
      | (with_reducible exact ih2 _ _ _)
      | (with_reducible exact LeO.refl _)
      | (with_reducible exact LeO.none _)
      | (with_reducible refine LeO.ite ?_ ?_)
      | (with_reducible refine LeO.bind ?_ (fun _ => ?_))
      | exact ih0 _ _ _ _
      | exact ih1 _ _
      | exact ih2 _ _ _
      | exact LeO.none _
      | refine LeO.ite ?_ ?_
      | refine LeO.bind ?_ (fun _ => ?_)
    · intro y0 y1
      unfold sha_pad.l1
      repeat' first
      | (with_reducible exact ih0 _ _ _ _)
      | (with_reducible exact ih1 _ _)
      | (with_reducible exact ih2 _ _ _)
      | (with_reducible exact LeO.refl _)
      | (with_reducible exact LeO.none _)
      | (with_reducible refine LeO.ite ?_ ?_)
      | (with_reducible refine LeO.bind ?_ (fun _ => ?_))
      | exact ih0 _ _ _ _
      | exact ih1 _ _
      | exact ih2 _ _ _
      | exact LeO.none _
      | refine LeO.ite ?_ ?_
      | refine LeO.bind ?_ (fun _ => ?_)
    · intro y0 y1 y2
      unfold sha_pad.l2
      repeat' first
      | (with_reducible exact ih0 _ _ _ _)
      | (with_reducible exact ih1 _ _)
      | (with_reducible exact ih2 _ _ _)
      | (with_reducible exact LeO.refl _)
      | (with_reducible exact LeO.none _)
      | (with_reducible refine LeO.ite ?_ ?_)
      | (with_reducible refine LeO.bind ?_ (fun _ => ?_))
      | exact ih0 _ _ _ _
      | exact ih1 _ _
      | exact ih2 _ _ _
      | exact LeO.none _
      | refine LeO.ite ?_ ?_
      | refine LeO.bind ?_ (fun _ => ?_)
theorem sha_pad.mono : ∀ a0 k, LeO (sha_pad.f k a0) (sha_pad.f (k + 1) a0) := by
  intro a0 k
  obtain ⟨ih0, ih1, ih2⟩ := sha_pad.mono_l k
  unfold sha_pad.f
  repeat' first
      | (with_reducible exact ih0 _ _ _ _)
      | (with_reducible exact ih1 _ _)
      | (with_reducible exact ih2 _ _ _)
      | (with_reducible exact LeO.refl _)
      | (with_reducible exact LeO.none _)
      | (with_reducible refine LeO.ite ?_ ?_)
      | (with_reducible refine LeO.bind ?_ (fun _ => ?_))
      | exact ih0 _ _ _ _
      | exact ih1 _ _
      | exact ih2 _ _ _
      | exact LeO.none _
      | refine LeO.ite ?_ ?_
      | refine LeO.bind ?_ (fun _ => ?_)
def sha_Of.f (k : Nat) (l0 : List (List Int)) : Option (List Int) := (sha_pad.f k l0).bind digO
theorem sha_Of.mono : ∀ a0 k, LeO (sha_Of.f k a0) (sha_Of.f (k + 1) a0) := by
  intro a0 k
  unfold sha_Of.f
  exact LeO.bind (sha_pad.mono _ _) (fun _ => LeO.refl _)
set_option maxHeartbeats 8000000 in
set_option maxRecDepth 100000 in
theorem sha_Of.calls (k : Nat) (A0 : Option Addr) (c0 : Nat) (l0 : List (List Int)) (r : List Int) (w : World) (hr0 : Kd.C (Kd.slice 5 (Kd.int .u8)) w A0 l0.length l0) (hc0 : l0.length ≤ c0) (h : sha_Of.f k l0 = some r) :
    Calls Try.prog 7 #[.slice A0 l0.length c0] w fun e w' => ∃ v0_ : Value, e = .returned (v0_) ∧ Kd.R (Kd.int .u8) 5 w' w.heap.size (fun _ => True) v0_ r ∧ Below w.heap.size w w' := by
  obtain ⟨X_, hX_, hr_⟩ := Option.bind_eq_some_iff.mp h
  have HD_ := Aside0.mk hr_
  clear hr_
  have HR0 := Aside0.mk hr0
  have HC0 := Aside0.mk hc0
  clear hr0 hc0
  have HB := Aside0.mk (Below.refl w.heap.size w)
  have H : (sha_pad.l0 k ([] : List Int) l0 (l0.length : Int) 0) = some X_ := hX_
  clear h
  have H' := Aside0.mk H
  clear H
  go_enter Try.func7, Try.ntmps7
  go_wp2
  go_loopg [3, 15] k (fun kq v3 v15 w' => ∃ (x3_1 : List Int) (x15_1 : Int), v15 = .int .i64 x15_1 ∧ Aside0 (sha_pad.l0 kq x3_1 l0 (l0.length : Int) x15_1 = some X_) ∧ Aside0 (kq ≤ k) ∧ Aside0 (Kd.R (Kd.int .u8) 5 w' w.heap.size (fun _ => True) v3 x3_1) ∧ Aside0 (Below w.heap.size w w'))
  case atStart => exact ⟨(([] : List Int)), (0), (by first | rfl | (simp; done) | (simp [*]; done)), H', ⟨Nat.le_refl _⟩, ⟨by first | exact Kd.R_nil _ _ _ _ _ | exact Kd.N_nil _ _ _ _ _ | exact Kd.V_nil _ _ _ _ _ | exact Kd.Q_nil _ _ _ _ _ | exact Kd.S_nil _ _ _ _ _⟩, ⟨by repeat (first | (with_reducible first | exact HB.out | apply below_alloc | apply pw_below_drewN | apply below_drew1) | exact HB.out)⟩⟩
  case round =>
    clear H'
    obtain ⟨x3_1, x15_1, rfl, HA, HK1, HO_3, HB⟩ := hrel
    cases gk with
    | zero => exact absurd HA.out (by simp [sha_pad.l0])
    | succ k1 =>
      have H := HA.out
      clear HA
      simp only [sha_pad.l0] at H
      by_cases c2 : x15_1 < (l0.length : Int)
      · rw [if_pos c2] at H
        have c2b0 : decide (x15_1 < (l0.length : Int)) = true := decide_eq_true c2
        clear c2
        by_cases c3 : 0 ≤ x15_1
        · rw [if_pos c3] at H
          have c3b0 : decide (0 ≤ x15_1) = true := decide_eq_true c3
          clear c3
          by_cases c4 : x15_1 < (l0.length : Int)
          · rw [if_pos c4] at H
            have c4b0 : decide (x15_1 < (l0.length : Int)) = true := decide_eq_true c4
            clear c4
            by_cases c5 : x3_1.length + (rd_L1 l0 x15_1).length < 140737488355328
            · rw [if_pos c5] at H
              have LMc5 := Aside0.mk c5
              clear c5
              obtain ⟨y103, hy103⟩ : ∃ y_ : List Int, y_ = (x3_1 ++ (rd_L1 l0 x15_1)) := ⟨_, rfl⟩
              replace H : (sha_pad.l0 k1 y103 l0 (l0.length : Int) (wrap64 (x15_1 + 1))) = some X_ := by first | (rw [hy103]; with_reducible exact H) | (have H2_ := (Option.bind_some _ _).symm.trans H; rw [hy103]; with_reducible exact H2_) | (have H2_ := (Option.bind_some _ _).symm.trans H; with_reducible exact H2_) | with_reducible exact H | (rw [hy103]; exact H) | exact H
              have Ny103 := Aside0.mk hy103
              clear hy103
              have H' := Aside0.mk H
              clear H
              have p102 : 0 ≤ (x15_1 : Int) := of_decide_eq_true (by first | (with_reducible assumption) | assumption)
              have q102 : x15_1 < (l0.length : Int) := of_decide_eq_true (by first | (with_reducible assumption) | assumption)
              obtain ⟨ad102, A102_0, c102_0, e102, hx102_0, hl102_0, hi102_0⟩ := at_L1 HR0.out x15_1 p102 q102
              cases e102
              replace hx102_0 := (HB.out.cell (World.block_lt_of_cell? w _ hx102_0)).trans hx102_0
              have HR102_0 := Aside0.mk hi102_0
              have HC102_0 := Aside0.mk hl102_0
              clear hi102_0 hl102_0
              replace p102 := eq_true p102
              replace q102 := eq_true q102
              go_wp2_with (first | ((with_reducible refine gate_builtin (b := .append) (xs := #[.tmp 19, .tmp 20]) rfl ?_); (apply Classical.byContradiction; intro hcc_)))
              refine hcc_ ?_
              clear hcc_
              at_builtin
              refine Kd.R_append_rows (Kd.int .u8) (w0 := w) w.heap.size rfl (.tmp 19) (.tmp 20) 22 5 (.int .u8 0) 1 rfl Try.underlying22 info5 rfl (by decide) (by omega) u3 x3_1 (rd_L1 l0 x15_1) _ _ _ (fun _ => True) (fun _ => False) rfl rfl ?aO ?aR (fun _ _ h => h) (fun _ h => h.elim) ?aF ?aB ?aS ?aL ?_
              (case aR => repeat (first | exact (Kd.C_below HR102_0.out HB.out) | (with_reducible refine Kd.C_alloc ?_ _) | (with_reducible refine Kd.C_drewN ?_ _) | (with_reducible refine Kd.C_drew ?_)))
              (case aB => exact (by repeat (first | (with_reducible first | exact HB.out | apply below_alloc | apply pw_below_drewN | apply below_drew1) | exact HB.out)))
              (case aF => exact (fun _ _ => trivial))
              (case aO => exact (by (with_reducible repeat (first | apply Kd.R_alloc | apply Kd.R_drewN | apply Kd.R_drew)); exact HO_3.out))
              (case aS => exact (below_size (by repeat (first | (with_reducible first | exact HB.out | apply below_alloc | apply pw_below_drewN | apply below_drew1) | exact HB.out))))
              (case aL => have := LMc5.out; omega)
              intro v104 w6 ho hb hg hat
              rw [← Ny103.out] at ho
              have n0_ := Aside0.mk (hb)
              have n1_ := Aside0.mk (ho)
              clear HB
              clear HO_3
              have HB := n0_
              have HO105 := n1_
              clear n0_ n1_
              clear ho hb hg hat
              go_wp2
              go_roundg k1
              case measure => have := HK1.out; omega
              case rel => exact ⟨(y103), (wrap64 (x15_1 + 1)), (by first | rfl | (simp; done) | (simp [*]; done)), H', ⟨by have := HK1.out; omega⟩, ⟨by (with_reducible repeat (first | apply Kd.R_alloc | apply Kd.R_drewN | apply Kd.R_drew)); (first | exact HO105.out | exact Kd.R_mono HO105.out (fun k_ h_ => h_.1))⟩, ⟨by repeat (first | (with_reducible first | exact HB.out | apply below_alloc | apply pw_below_drewN | apply below_drew1) | exact HB.out)⟩⟩
            · rw [if_neg c5] at H
              exact absurd H (by simp)
          · rw [if_neg c4] at H
            exact absurd H (by simp)
        · rw [if_neg c3] at H
          exact absurd H (by simp)
      · rw [if_neg c2] at H
        have c2b0 : decide (x15_1 < (l0.length : Int)) = false := decide_eq_false c2
        clear c2
        by_cases c7 : x3_1.length < 140737488355328
        · rw [if_pos c7] at H
          have LMc7 := Aside0.mk c7
          clear c7
          obtain ⟨y106, hy106⟩ : ∃ y_ : List Int, y_ = (x3_1 ++ [128]) := ⟨_, rfl⟩
          replace H : (sha_pad.l1 k1 y106 (IntKind.u64.wrap ((IntKind.u64.wrap ((x3_1.length : Int))) * 8))) = some X_ := by first | (rw [hy106]; with_reducible exact H) | (have H2_ := (Option.bind_some _ _).symm.trans H; rw [hy106]; with_reducible exact H2_) | (have H2_ := (Option.bind_some _ _).symm.trans H; with_reducible exact H2_) | with_reducible exact H | (rw [hy106]; exact H) | exact H
          have Ny106 := Aside0.mk hy106
          clear hy106
          have H' := Aside0.mk H
          clear H
          obtain ⟨Ao8, co8, eo8⟩ := Kd.R_slice HO_3.out
          subst eo8
          go_wp2_with (first | ((with_reducible refine gate_builtin (b := .append) (xs := #[.tmp 27, .tmp 28]) rfl ?_); (apply Classical.byContradiction; intro hcc_)))
          refine hcc_ ?_
          clear hcc_
          at_builtin
          refine Kd.R_append (Kd.int .u8) (w0 := w) w.heap.size rfl (.tmp 27) (.tmp 28) 22 5 (.int .u8 0) 1 rfl Try.underlying22 info5 rfl (by decide) (by omega) (.slice Ao8 x3_1.length co8) x3_1 128 [.int .u8 128] (fun _ => True) (fun _ => False) rfl rfl ?aP (fun _ hk => hk.elim) ?aF ?aO ?aB ?aS ?aL ?_
          (case aP => exact rfl)
          (case aB => exact (by repeat (first | (with_reducible first | exact HB.out | apply below_alloc | apply pw_below_drewN | apply below_drew1) | exact HB.out)))
          (case aF => exact (fun _ _ => trivial))
          (case aO => exact (by (with_reducible repeat (first | apply Kd.R_alloc | apply Kd.R_drewN | apply Kd.R_drew)); exact HO_3.out))
          (case aS => exact (below_size (by repeat (first | (with_reducible first | exact HB.out | apply below_alloc | apply pw_below_drewN | apply below_drew1) | exact HB.out))))
          (case aL => have := LMc7.out; omega)
          intro v107 w9 ho hb hg hat
          rw [← Ny106.out] at ho
          have n0_ := Aside0.mk (hb)
          have n1_ := Aside0.mk (ho)
          clear HB
          clear HO_3
          have HB := n0_
          have HO108 := n1_
          clear n0_ n1_
          clear ho hb hg hat
          go_wp2
          go_loopg [3] k1 (fun kq v3 w' => ∃ (x3_2 : List Int), Aside0 (sha_pad.l1 kq x3_2 (IntKind.u64.wrap ((IntKind.u64.wrap ((x3_1.length : Int))) * 8)) = some X_) ∧ Aside0 (kq ≤ k1) ∧ Aside0 (Kd.R (Kd.int .u8) 5 w' w.heap.size (fun _ => True) v3 x3_2) ∧ Aside0 (Below w.heap.size w w'))
          case atStart => exact ⟨(y106), H', ⟨Nat.le_refl _⟩, ⟨by (with_reducible repeat (first | apply Kd.R_alloc | apply Kd.R_drewN | apply Kd.R_drew)); (first | exact HO108.out | exact Kd.R_mono HO108.out (fun k_ h_ => h_.1))⟩, ⟨by repeat (first | (with_reducible first | exact HB.out | apply below_alloc | apply pw_below_drewN | apply below_drew1) | exact HB.out)⟩⟩
          case round =>
            clear H'
            try clear c1
            try clear p1
            try clear q1
            try clear hx1
            try clear c2
            try clear c2b0
            try clear p2
            try clear c3
            try clear c3b0
            try clear c4
            try clear c4b0
            try clear c5
            try clear p6
            try clear c7
            try clear hx102_0
            try clear p102
            try clear q102
            obtain ⟨x3_2, HA, HK2, HO_3, HB⟩ := hrel
            cases gk with
            | zero => exact absurd HA.out (by simp [sha_pad.l1])
            | succ k2 =>
              have H := HA.out
              clear HA
              simp only [sha_pad.l1] at H
              by_cases c10 : ((x3_2.length : Int) % 64) = 56
              · rw [if_pos c10] at H
                have c10b0 : (((x3_2.length : Int) % 64) == 56) = true := beq_iff_eq.mpr c10
                have c10b1 : (((x3_2.length : Int) % 64) != 56) = false := bne_eq_false_iff_eq.mpr c10
                clear c10
                have H' := Aside0.mk H
                clear H
                obtain ⟨Ao11, co11, eo11⟩ := Kd.R_slice HO_3.out
                subst eo11
                go_wp2
                go_loopg [3, 7] k2 (fun kq v3 v7 w' => ∃ (x3_3 : List Int) (x7_3 : Int), v7 = .int .i64 x7_3 ∧ Aside0 (sha_pad.l2 kq x3_3 (IntKind.u64.wrap ((IntKind.u64.wrap ((x3_1.length : Int))) * 8)) x7_3 = some X_) ∧ Aside0 (kq ≤ k2) ∧ Aside0 (Kd.R (Kd.int .u8) 5 w' w.heap.size (fun _ => True) v3 x3_3) ∧ Aside0 (Below w.heap.size w w'))
                case atStart => exact ⟨(x3_2), (7), (by first | rfl | (simp; done) | (simp [*]; done)), H', ⟨Nat.le_refl _⟩, ⟨by (with_reducible repeat (first | apply Kd.R_alloc | apply Kd.R_drewN | apply Kd.R_drew)); (first | exact HO_3.out | exact Kd.R_mono HO_3.out (fun k_ h_ => h_.1))⟩, ⟨by repeat (first | (with_reducible first | exact HB.out | apply below_alloc | apply pw_below_drewN | apply below_drew1) | exact HB.out)⟩⟩
                case round =>
                  clear H'
                  try clear c1
                  try clear p1
                  try clear q1
                  try clear hx1
                  try clear c2
                  try clear c2b0
                  try clear p2
                  try clear c3
                  try clear c3b0
                  try clear c4
                  try clear c4b0
                  try clear c5
                  try clear p6
                  try clear c7
                  try clear c10
                  try clear c10b0
                  try clear c10b1
                  try clear p10
                  try clear q10
                  try clear hx10
                  try clear hx102_0
                  try clear p1
                  try clear p102
                  try clear p2
                  try clear p6
                  try clear q1
                  try clear q102
                  obtain ⟨x3_3, x7_3, rfl, HA, HK3, HO_3, HB⟩ := hrel
                  cases gk with
                  | zero => exact absurd HA.out (by simp [sha_pad.l2])
                  | succ k3 =>
                    have H := HA.out
                    clear HA
                    simp only [sha_pad.l2] at H
                    by_cases c12 : x7_3 ≥ 0
                    · rw [if_pos c12] at H
                      have c12b0 : decide (0 ≤ x7_3) = true := decide_eq_true c12
                      clear c12
                      obtain ⟨ji13, hji13⟩ : ∃ j_ : Int, (wrap64 (8 * x7_3)) = j_ := ⟨_, rfl⟩
                      replace H : (if 0 ≤ (ji13) then (if x3_3.length < 140737488355328 then (sha_pad.l2 k3 (x3_3 ++ [(shr .u64 (IntKind.u64.wrap ((IntKind.u64.wrap ((x3_1.length : Int))) * 8)) (ji13)) % 256]) (IntKind.u64.wrap ((IntKind.u64.wrap ((x3_1.length : Int))) * 8)) (wrap64 (x7_3 - 1))) else (none)) else (none)) = some X_ := by first | (rw [hji13] at H; exact H) | (simp only [hji13] at H ⊢; exact H)
                      have hji13w : (IntKind.i64.wrap (8 * x7_3)) = ji13 := (i64_w _).trans hji13
                      by_cases c14 : 0 ≤ (ji13)
                      · rw [if_pos c14] at H
                        have c14b0 := eq_true c14
                        have c14b1 : decide (0 ≤ (ji13)) = true := decide_eq_true c14
                        clear c14
                        obtain ⟨ji15, hji15⟩ : ∃ j_ : Int, (shr .u64 (IntKind.u64.wrap ((IntKind.u64.wrap ((x3_1.length : Int))) * 8)) (ji13)) = j_ := ⟨_, rfl⟩
                        replace H : (if x3_3.length < 140737488355328 then (sha_pad.l2 k3 (x3_3 ++ [(ji15) % 256]) (IntKind.u64.wrap ((IntKind.u64.wrap ((x3_1.length : Int))) * 8)) (wrap64 (x7_3 - 1))) else (none)) = some X_ := by first | (rw [hji15] at H; exact H) | (simp only [hji15] at H ⊢; exact H)
                        have hji15_ : ((IntKind.u64.wrap ((IntKind.u64.wrap ((x3_1.length : Int))) * 8)) / 2 ^ min (ji13).toNat 64) = ji15 := hji15
                        have hji15z : (ji13) ≤ 64 → ((IntKind.u64.wrap ((IntKind.u64.wrap ((x3_1.length : Int))) * 8)) / 2 ^ (ji13).toNat) = ji15 := shr_small hji15
                        by_cases c16 : x3_3.length < 140737488355328
                        · rw [if_pos c16] at H
                          have LMc16 := Aside0.mk c16
                          clear c16
                          obtain ⟨y112, hy112⟩ : ∃ y_ : List Int, y_ = (x3_3 ++ [(ji15) % 256]) := ⟨_, rfl⟩
                          replace H : (sha_pad.l2 k3 y112 (IntKind.u64.wrap ((IntKind.u64.wrap ((x3_1.length : Int))) * 8)) (wrap64 (x7_3 - 1))) = some X_ := by first | (rw [hy112]; with_reducible exact H) | (have H2_ := (Option.bind_some _ _).symm.trans H; rw [hy112]; with_reducible exact H2_) | (have H2_ := (Option.bind_some _ _).symm.trans H; with_reducible exact H2_) | with_reducible exact H | (rw [hy112]; exact H) | exact H
                          have Ny112 := Aside0.mk hy112
                          clear hy112
                          have H' := Aside0.mk H
                          clear H
                          go_wp2_with (first | ((with_reducible refine gate_builtin (b := .append) (xs := #[.tmp 41, .tmp 47]) rfl ?_); (apply Classical.byContradiction; intro hcc_)))
                          refine hcc_ ?_
                          clear hcc_
                          at_builtin
                          refine Kd.R_append (Kd.int .u8) (w0 := w) w.heap.size rfl (.tmp 41) (.tmp 47) 22 5 (.int .u8 0) 1 rfl Try.underlying22 info5 rfl (by decide) (by omega) u3 x3_3 ((ji15) % 256) [.int .u8 ((ji15) % 256)] (fun _ => True) (fun _ => False) rfl rfl ?aP (fun _ hk => hk.elim) ?aF ?aO ?aB ?aS ?aL ?_
                          (case aP => exact rfl)
                          (case aB => exact (by repeat (first | (with_reducible first | exact HB.out | apply below_alloc | apply pw_below_drewN | apply below_drew1) | exact HB.out)))
                          (case aF => exact (fun _ _ => trivial))
                          (case aO => exact (by (with_reducible repeat (first | apply Kd.R_alloc | apply Kd.R_drewN | apply Kd.R_drew)); exact HO_3.out))
                          (case aS => exact (below_size (by repeat (first | (with_reducible first | exact HB.out | apply below_alloc | apply pw_below_drewN | apply below_drew1) | exact HB.out))))
                          (case aL => have := LMc16.out; omega)
                          intro v113 w17 ho hb hg hat
                          rw [← Ny112.out] at ho
                          have n0_ := Aside0.mk (hb)
                          have n1_ := Aside0.mk (ho)
                          clear HB
                          clear HO_3
                          have HB := n0_
                          have HO114 := n1_
                          clear n0_ n1_
                          clear ho hb hg hat
                          go_wp2
                          go_roundg k3
                          case measure => have := HK1.out; have := HK2.out; have := HK3.out; omega
                          case rel => exact ⟨(y112), (wrap64 (x7_3 - 1)), (by first | rfl | (simp; done) | (simp [*]; done)), H', ⟨by have := HK1.out; have := HK2.out; have := HK3.out; omega⟩, ⟨by (with_reducible repeat (first | apply Kd.R_alloc | apply Kd.R_drewN | apply Kd.R_drew)); (first | exact HO114.out | exact Kd.R_mono HO114.out (fun k_ h_ => h_.1))⟩, ⟨by repeat (first | (with_reducible first | exact HB.out | apply below_alloc | apply pw_below_drewN | apply below_drew1) | exact HB.out)⟩⟩
                        · rw [if_neg c16] at H
                          exact absurd H (by simp)
                      · rw [if_neg c14] at H
                        exact absurd H (by simp)
                    · rw [if_neg c12] at H
                      have c12b0 : decide (0 ≤ x7_3) = false := decide_eq_false c12
                      clear c12
                      obtain rfl := Option.some.inj H
                      obtain ⟨m_, hm_, hs_, hr_⟩ := digO_some HD_.out
                      obtain ⟨Ao_, co_, eo_⟩ := Kd.R_slice HO_3.out
                      subst eo_
                      obtain ⟨_, hn_, hC_⟩ := Kd.R_reads' HO_3.out
                      obtain ⟨W0, eW0⟩ : ∃ W0, W0 = wr := ⟨_, rfl⟩
                      have HW := Aside0.mk (show Below W0.heap.size W0 wr by rw [eW0]; exact Below.refl _ _)
                      have HC := Aside0.mk (show Kd.C (Kd.int .u8) W0 Ao_ x3_3.length x3_3 by rw [eW0]; exact hC_)
                      have HM := Aside0.mk (And.intro hm_ (And.intro hn_ hs_))
                      have HRr := Aside0.mk hr_
                      clear hm_ hr_ hn_ hC_ hs_ eW0
                      go_wp2_with (first
                        | ((with_reducible refine gate_dst (N := 49) rfl ?_); refine ar_build_step 49 rfl rfl 28 _ rfl iv (by kernel_rfl) ?_)
                        | ((with_reducible refine gate_dst (N := 8) rfl ?_); refine box_event rfl (N := 8) rfl (cs := ar (List.replicate 8 0)) (t := 28) ?hr ?_; (case hr => first | (go_simp; done) | (go_simp; rfl)); intro g8 eg_ w8_ hc_ hb_; skip; have G8 := Aside0.mk (show w.heap.size ≤ g8 by have := HB.out.size; omega); have n_ := Aside0.mk (below_step HB.out hb_); clear HB; have HB := n_; clear n_; have KW := Aside0.mk (show W0.heap.size ≤ g8 by have := HW.out.size; omega); have n_ := Aside0.mk (below_step HW.out hb_); clear HW; have HW := n_; clear n_; have H8 : Aside0 (AR w8_ g8 28 8 (List.replicate 8 0)) := ⟨⟨rfl, hc_⟩⟩; clear hc_ hb_ eg_)
                        | ((with_reducible refine gate_store (t := 28) (p := 8) rfl ?_); refine ar_store_step rfl rfl 28 _ _ rfl g8 28 8 _ (iv) rfl rfl H8.out rfl (by kernel_rfl) ?_; intro w8p_ hw_; have n_ : Aside0 (AR w8p_ g8 28 8 (iv)) := ⟨by rw [hw_]; exact H8.out.put (iv) rfl⟩; clear H8; have H8 := n_; clear n_; have n_ : Aside0 (Below w.heap.size w w8p_) := ⟨by rw [hw_]; exact below_put HB.out G8.out⟩; clear HB; have HB := n_; clear n_; have n_ : Aside0 (Below W0.heap.size W0 w8p_) := ⟨by rw [hw_]; exact below_put HW.out KW.out⟩; clear HW; have HW := n_; clear n_; clear hw_))
                      go_loopg [3] m_ (fun kq v3 w' => ∃ (A : Option Addr) (n c : Nat) (xs hv : List Int), v3 = .slice A n c ∧ Aside0 (n = xs.length ∧ n ≤ c ∧ n = 64 * kq) ∧ Aside0 (Kd.C (Kd.int .u8) W0 A xs.length xs) ∧ Aside0 (hv.length = 8 ∧ r = outP (blks kq hv xs) 8 ∧ True) ∧ Aside0 (AR w' g8 28 8 hv) ∧ Aside0 (Below w.heap.size w w') ∧ Aside0 (Below W0.heap.size W0 w'))
                      case atStart => exact ⟨_, _, _, _, iv, rfl, ⟨rfl, HM.out.2.1, HM.out.1⟩, HC, ⟨rfl, HRr.out, trivial⟩, H8, HB, HW⟩
                      case round =>
                        clear HC H8 HB HW HO_3 HRr HM
                        obtain ⟨A, n, c, xs, hv, rfl, HX, HC, HH, H8, HB, HW⟩ := hrel
                        obtain ⟨hn, hc, hk⟩ := HX.out
                        cases gk with
                        | zero =>
                          obtain rfl : n = 0 := by omega
                          have HHv := Aside0.mk (And.intro HH.out.1 HH.out.2.1)
                          clear hn hc hk
                          go_wp2_with (first
                            | ((with_reducible refine gate_dst (N := 59) rfl ?_); refine ar_load_step 59 rfl rfl 28 _ rfl g8 28 8 8 _ rfl H8.out 27 Try.underlying28 (by kernel_rfl) ?_))
                          clear H8 HW HC HX
                          go_loopg [9, 60] 8 (fun kq v9 v60 w' => ∃ (i : Nat) (x : Int), v60 = .int .i64 x ∧ Aside0 (x = i ∧ i + kq = 8) ∧ Aside0 (Kd.R (Kd.int .u8) 5 w' w.heap.size (fun _ => True) v9 (outP hv i)) ∧ Aside0 (Below w.heap.size w w'))
                          case atStart => exact ⟨0, 0, rfl, ⟨rfl, rfl⟩, ⟨Kd.R_nil _ _ _ _ _⟩, HB⟩
                          case round =>
                            clear HB
                            obtain ⟨i, x, rfl, HX, HO_9, HB⟩ := hrel
                            obtain ⟨hx, hi⟩ := HX.out
                            cases gk with
                            | zero =>
                              have c1 : decide (x < 8) = false := decide_eq_false (by omega)
                              obtain rfl : i = 8 := by omega
                              clear hx hi
                              go_wp2
                              go_ret
                              exact ⟨_, rfl, (by have h_ := HHv.out.2; rw [h_]; exact HO_9.out), HB.out⟩
                            | succ k6 =>
                              have c1 : decide (x < 8) = true := decide_eq_true (by omega)
                              obtain ⟨X, hX⟩ : ∃ X, hv.getD x.toNat 0 = X := ⟨_, rfl⟩
                              have HX := Aside0.mk (And.intro hx (And.intro hi hX))
                              have HI := Aside0.mk (show 0 ≤ x ∧ x < ((8 : Nat) : Int) by omega)
                              clear hx hi hX
                              go_wp2_with (first
                                | ((with_reducible refine gate_dst (N := 62) rfl ?_); refine index_step_at 62 rfl rfl 28 _ _ rfl hv 8 27 x X HX.out.2.2 rfl rfl Try.underlying28 (by kernel_rfl) Try.underlying27 HHv.out.1 HI.out.1 HI.out.2 ?_))
                              clear c1
                              go_loopg [9, 12] 4 (fun kq v9 v12 w' => ∃ (j : Nat) (y : Int), v12 = .int .i64 y ∧ Aside0 (y = 3 - j ∧ j + kq = 4) ∧ Aside0 (Kd.R (Kd.int .u8) 5 w' w.heap.size (fun _ => True) v9 (outP hv i ++ (wb X).take j)) ∧ Aside0 (Below w.heap.size w w'))
                              case atStart => exact ⟨0, 3, rfl, ⟨rfl, rfl⟩, ⟨by rw [List.take_zero, List.append_nil]; exact HO_9.out⟩, HB⟩
                              case round =>
                                clear HB HO_9
                                obtain ⟨j, y, rfl, HY, HO_9, HB⟩ := hrel
                                obtain ⟨hy, hj⟩ := HY.out
                                cases gk with
                                | zero =>
                                  have c1 : decide (0 ≤ y) = false := decide_eq_false (by omega)
                                  obtain rfl : j = 4 := by omega
                                  clear hy hj
                                  go_wp2
                                  go_roundg k6
                                  case measure => omega
                                  case rel =>
                                    obtain ⟨hx, hi, hX⟩ := HX.out
                                    refine ⟨i + 1, _, rfl, ⟨?_, by omega⟩, ⟨?_⟩, HB⟩
                                    · show wrap64 (x + 1) = _
                                      rw [← i64_w, i64_of _ (by omega) (by omega)]; omega
                                    · have ex : x.toNat = i := by omega
                                      have h_ := HO_9.out
                                      rw [outP]
                                      unfold gw
                                      rw [← ex, hX]
                                      rw [ex]
                                      exact h_
                                | succ k7 =>
                                  have HL9 := Aside0.mk (show (outP hv i ++ (wb X).take j).length ≤ 100 by have h1_ := outP_len hv i; have h2_ : ((wb X).take j).length ≤ (wb X).length := (by rw [List.length_take]; exact Nat.min_le_right _ _); have h3_ : (wb X).length = 4 := rfl; have := HX.out.2.1; rw [List.length_append]; omega)
                                  have HK7 := Aside0.mk (show j + (k7 + 1) = 4 from hj)
                                  rcases (show j = 0 ∨ j = 1 ∨ j = 2 ∨ j = 3 by omega) with rfl | rfl | rfl | rfl
                                  · obtain rfl : y = 3 := by omega
                                    clear hy hj
                                    go_wp2_with (first | ((with_reducible refine gate_builtin (b := .append) (xs := #[.tmp 67, .tmp 73]) rfl ?_); (apply Classical.byContradiction; intro hcc_)))
                                    refine hcc_ ?_
                                    clear hcc_
                                    (apply Classical.byContradiction; intro hcc_)
                                    go_wp2
                                    refine hcc_ ?_
                                    clear hcc_
                                    at_builtin
                                    refine Kd.R_append (Kd.int .u8) (w0 := w) w.heap.size rfl (.tmp 67) (.tmp 73) 22 5 (.int .u8 0) 1 rfl Try.underlying22 info5 rfl (by decide) (by omega) u9 (outP hv i ++ (wb X).take 0) (X / 16777216 % 256) [.int .u8 (X / 16777216 % 256)] (fun _ => True) (fun _ => False) rfl rfl ?aP (fun _ hk => hk.elim) ?aF ?aO ?aB ?aS ?aL ?_
                                    (case aP => exact rfl)
                                    (case aB => exact (by repeat (first | (with_reducible first | exact HB.out | apply below_alloc | apply pw_below_drewN | apply below_drew1) | exact HB.out)))
                                    (case aF => exact (fun _ _ => trivial))
                                    (case aO => exact (by (with_reducible repeat (first | apply Kd.R_alloc | apply Kd.R_drewN | apply Kd.R_drew)); exact HO_9.out))
                                    (case aS => exact (below_size (by repeat (first | (with_reducible first | exact HB.out | apply below_alloc | apply pw_below_drewN | apply below_drew1) | exact HB.out))))
                                    (case aL => have := HL9.out; omega)
                                    intro v9_ w9_ ho hb hg hat
                                    have n0_ := Aside0.mk (hb)
                                    have n1_ := Aside0.mk (ho)
                                    clear HB HO_9 ho hb hg hat
                                    have HB := n0_
                                    have HO_9 := n1_
                                    clear n0_ n1_
                                    go_wp2
                                    go_roundg k7
                                    case measure => omega
                                    case rel => exact ⟨1, 2, rfl, ⟨rfl, by have := HK7.out; omega⟩, ⟨by have h_ := HO_9.out; rw [List.append_assoc] at h_; exact h_⟩, HB⟩
                                  · obtain rfl : y = 2 := by omega
                                    clear hy hj
                                    go_wp2_with (first | ((with_reducible refine gate_builtin (b := .append) (xs := #[.tmp 67, .tmp 73]) rfl ?_); (apply Classical.byContradiction; intro hcc_)))
                                    refine hcc_ ?_
                                    clear hcc_
                                    (apply Classical.byContradiction; intro hcc_)
                                    go_wp2
                                    refine hcc_ ?_
                                    clear hcc_
                                    at_builtin
                                    refine Kd.R_append (Kd.int .u8) (w0 := w) w.heap.size rfl (.tmp 67) (.tmp 73) 22 5 (.int .u8 0) 1 rfl Try.underlying22 info5 rfl (by decide) (by omega) u9 (outP hv i ++ (wb X).take 1) (X / 65536 % 256) [.int .u8 (X / 65536 % 256)] (fun _ => True) (fun _ => False) rfl rfl ?aP (fun _ hk => hk.elim) ?aF ?aO ?aB ?aS ?aL ?_
                                    (case aP => exact rfl)
                                    (case aB => exact (by repeat (first | (with_reducible first | exact HB.out | apply below_alloc | apply pw_below_drewN | apply below_drew1) | exact HB.out)))
                                    (case aF => exact (fun _ _ => trivial))
                                    (case aO => exact (by (with_reducible repeat (first | apply Kd.R_alloc | apply Kd.R_drewN | apply Kd.R_drew)); exact HO_9.out))
                                    (case aS => exact (below_size (by repeat (first | (with_reducible first | exact HB.out | apply below_alloc | apply pw_below_drewN | apply below_drew1) | exact HB.out))))
                                    (case aL => have := HL9.out; omega)
                                    intro v9_ w9_ ho hb hg hat
                                    have n0_ := Aside0.mk (hb)
                                    have n1_ := Aside0.mk (ho)
                                    clear HB HO_9 ho hb hg hat
                                    have HB := n0_
                                    have HO_9 := n1_
                                    clear n0_ n1_
                                    go_wp2
                                    go_roundg k7
                                    case measure => omega
                                    case rel => exact ⟨2, 1, rfl, ⟨rfl, by have := HK7.out; omega⟩, ⟨by have h_ := HO_9.out; rw [List.append_assoc] at h_; exact h_⟩, HB⟩
                                  · obtain rfl : y = 1 := by omega
                                    clear hy hj
                                    go_wp2_with (first | ((with_reducible refine gate_builtin (b := .append) (xs := #[.tmp 67, .tmp 73]) rfl ?_); (apply Classical.byContradiction; intro hcc_)))
                                    refine hcc_ ?_
                                    clear hcc_
                                    (apply Classical.byContradiction; intro hcc_)
                                    go_wp2
                                    refine hcc_ ?_
                                    clear hcc_
                                    at_builtin
                                    refine Kd.R_append (Kd.int .u8) (w0 := w) w.heap.size rfl (.tmp 67) (.tmp 73) 22 5 (.int .u8 0) 1 rfl Try.underlying22 info5 rfl (by decide) (by omega) u9 (outP hv i ++ (wb X).take 2) (X / 256 % 256) [.int .u8 (X / 256 % 256)] (fun _ => True) (fun _ => False) rfl rfl ?aP (fun _ hk => hk.elim) ?aF ?aO ?aB ?aS ?aL ?_
                                    (case aP => exact rfl)
                                    (case aB => exact (by repeat (first | (with_reducible first | exact HB.out | apply below_alloc | apply pw_below_drewN | apply below_drew1) | exact HB.out)))
                                    (case aF => exact (fun _ _ => trivial))
                                    (case aO => exact (by (with_reducible repeat (first | apply Kd.R_alloc | apply Kd.R_drewN | apply Kd.R_drew)); exact HO_9.out))
                                    (case aS => exact (below_size (by repeat (first | (with_reducible first | exact HB.out | apply below_alloc | apply pw_below_drewN | apply below_drew1) | exact HB.out))))
                                    (case aL => have := HL9.out; omega)
                                    intro v9_ w9_ ho hb hg hat
                                    have n0_ := Aside0.mk (hb)
                                    have n1_ := Aside0.mk (ho)
                                    clear HB HO_9 ho hb hg hat
                                    have HB := n0_
                                    have HO_9 := n1_
                                    clear n0_ n1_
                                    go_wp2
                                    go_roundg k7
                                    case measure => omega
                                    case rel => exact ⟨3, 0, rfl, ⟨rfl, by have := HK7.out; omega⟩, ⟨by have h_ := HO_9.out; rw [List.append_assoc] at h_; exact h_⟩, HB⟩
                                  · obtain rfl : y = 0 := by omega
                                    clear hy hj
                                    go_wp2_with (first | ((with_reducible refine gate_builtin (b := .append) (xs := #[.tmp 67, .tmp 73]) rfl ?_); (apply Classical.byContradiction; intro hcc_)))
                                    refine hcc_ ?_
                                    clear hcc_
                                    (apply Classical.byContradiction; intro hcc_)
                                    go_wp2
                                    refine hcc_ ?_
                                    clear hcc_
                                    at_builtin
                                    refine Kd.R_append (Kd.int .u8) (w0 := w) w.heap.size rfl (.tmp 67) (.tmp 73) 22 5 (.int .u8 0) 1 rfl Try.underlying22 info5 rfl (by decide) (by omega) u9 (outP hv i ++ (wb X).take 3) (X % 256) [.int .u8 (X % 256)] (fun _ => True) (fun _ => False) rfl rfl ?aP (fun _ hk => hk.elim) ?aF ?aO ?aB ?aS ?aL ?_
                                    (case aP => exact rfl)
                                    (case aB => exact (by repeat (first | (with_reducible first | exact HB.out | apply below_alloc | apply pw_below_drewN | apply below_drew1) | exact HB.out)))
                                    (case aF => exact (fun _ _ => trivial))
                                    (case aO => exact (by (with_reducible repeat (first | apply Kd.R_alloc | apply Kd.R_drewN | apply Kd.R_drew)); exact HO_9.out))
                                    (case aS => exact (below_size (by repeat (first | (with_reducible first | exact HB.out | apply below_alloc | apply pw_below_drewN | apply below_drew1) | exact HB.out))))
                                    (case aL => have := HL9.out; omega)
                                    intro v9_ w9_ ho hb hg hat
                                    have n0_ := Aside0.mk (hb)
                                    have n1_ := Aside0.mk (ho)
                                    clear HB HO_9 ho hb hg hat
                                    have HB := n0_
                                    have HO_9 := n1_
                                    clear n0_ n1_
                                    go_wp2
                                    go_roundg k7
                                    case measure => omega
                                    case rel => exact ⟨4, -1, rfl, ⟨rfl, by have := HK7.out; omega⟩, ⟨by have h_ := HO_9.out; rw [List.append_assoc] at h_; exact h_⟩, HB⟩
                        | succ k5 =>
                          obtain ⟨hl8, hr8, hby⟩ := HH.out
                          obtain ⟨y0, y1, y2, y3, y4, y5, y6, y7, rfl⟩ := eight hl8
                          obtain ⟨z0, z1, z2, z3, z4, z5, z6, z7, hz⟩ := eight (block_len [y0, y1, y2, y3, y4, y5, y6, y7] (xs.take 64) rfl)
                          have ht : (xs.take 64).length = 64 := by rw [List.length_take]; omega
                          have CALL := Aside0.mk (show ∀ W : World, Below W0.heap.size W0 W → Calls Try.prog 10 #[.agg #[.int .u32 y0, .int .u32 y1, .int .u32 y2, .int .u32 y3, .int .u32 y4, .int .u32 y5, .int .u32 y6, .int .u32 y7], .slice A 64 c] W fun e w' => e = .returned (.agg #[.int .u32 z0, .int .u32 z1, .int .u32 z2, .int .u32 z3, .int .u32 z4, .int .u32 z5, .int .u32 z6, .int .u32 z7]) ∧ Below W.heap.size W w' from fun W hW => by
                            have h1 := sha_Block.calls [y0, y1, y2, y3, y4, y5, y6, y7] rfl A c (xs.take 64) W (Kd.C_take (Kd.C_below HC.out hW) (by omega)) (by omega) 
                            rw [hz, ht] at h1
                            exact h1)
                          have a0 := H8.out.cell 0 (by omega)
                          have a1 := H8.out.cell 1 (by omega)
                          have a2 := H8.out.cell 2 (by omega)
                          have a3 := H8.out.cell 3 (by omega)
                          have a4 := H8.out.cell 4 (by omega)
                          have a5 := H8.out.cell 5 (by omega)
                          have a6 := H8.out.cell 6 (by omega)
                          have a7 := H8.out.cell 7 (by omega)
                          simp only [List.getD_cons_zero, List.getD_cons_succ] at a0 a1 a2 a3 a4 a5 a6 a7
                          have cz : (0 < n) = True := eq_true (by omega)
                          have sl : ((64 : Int) ≤ (c : Int)) = True := eq_true (by omega)
                          have HV := Aside0.mk (And.intro hn (And.intro hc (And.intro hk (And.intro hr8 (And.intro hz hby)))))
                          clear hn hc hk hl8 hr8 hz ht hby
                          go_wp2_with fail
                          go_still_tail 3, (by kernel_rfl)
                          change wpList _ _ _ _ _ wr.drew
                          have n1_ := Aside0.mk (H8.out.drew)
                          have n2_ := Aside0.mk (below_drew1 HB.out)
                          have n3_ := Aside0.mk (below_drew1 HW.out)
                          clear H8 HB HW a0 a1 a2 a3 a4 a5 a6 a7 cz sl
                          generalize wr.drew = wd at n1_ n2_ n3_ ⊢
                          have H8 := n1_
                          have HB := n2_
                          have HW := n3_
                          clear n1_ n2_ n3_
                          go_wp2_with (first
                            | ((with_reducible refine gate_callee (f := 10) rfl ?_); refine goesL_ (some 58) rfl rfl Try.func10 (by kernel_rfl) rfl #[.agg #[.int .u32 y0, .int .u32 y1, .int .u32 y2, .int .u32 y3, .int .u32 y4, .int .u32 y5, .int .u32 y6, .int .u32 y7], .slice A 64 c] rfl (by (try simp only [List.map_toArray, List.map_cons, List.map_nil]); first | done | rfl) ?_; (with_reducible refine (CALL.out _ HW.out).mono ?_); rintro e w58c_ ⟨rfl, hb_⟩; refine ⟨_, rfl, ?_⟩; have n_ := Aside0.mk (H8.out.below hb_); clear H8; have H8 := n_; clear n_; have n_ := Aside0.mk (below_step HB.out hb_); clear HB; have HB := n_; clear n_; have n_ := Aside0.mk (below_step HW.out hb_); clear HW; have HW := n_; clear n_; clear hb_)
                            | ((with_reducible refine gate_store (t := 28) (p := 8) rfl ?_); refine ar_store_step rfl rfl 28 _ _ rfl g8 28 8 _ ([z0, z1, z2, z3, z4, z5, z6, z7]) rfl rfl H8.out rfl (by kernel_rfl) ?_; intro w8p_ hw_; have n_ : Aside0 (AR w8p_ g8 28 8 ([z0, z1, z2, z3, z4, z5, z6, z7])) := ⟨by rw [hw_]; exact H8.out.put ([z0, z1, z2, z3, z4, z5, z6, z7]) rfl⟩; clear H8; have H8 := n_; clear n_; have n_ : Aside0 (Below w.heap.size w w8p_) := ⟨by rw [hw_]; exact below_put HB.out G8.out⟩; clear HB; have HB := n_; clear n_; have n_ : Aside0 (Below W0.heap.size W0 w8p_) := ⟨by rw [hw_]; exact below_put HW.out KW.out⟩; clear HW; have HW := n_; clear n_; clear hw_)
                            | ((with_reducible refine gate_dst (N := 54) rfl ?_); refine slice_from_step 54 rfl rfl 22 _ _ rfl A n c 64 rfl rfl ?hs1 ?hs2 5 Try.underlying22 (by kernel_rfl) ?_; (case hs1 => have := HV.out.2.2.1; omega); (case hs2 => exact HV.out.2.1); intro A2 hA2_; have HA2 := Aside0.mk hA2_; clear hA2_))
                          go_roundg k5
                          case measure => omega
                          case rel =>
                            obtain ⟨hn, hc, hk, hr8, hz, hby⟩ := HV.out
                            have hd := Kd.C_drop (m := 64) (c := c) HC.out (by omega) (by omega)
                            have hsz : (Kd.int IntKind.u8).sz = 1 := rfl
                            rw [hsz, Nat.mul_one, ← HA2.out] at hd
                            refine ⟨A2, n - 64, c - 64, xs.drop 64, [z0, z1, z2, z3, z4, z5, z6, z7], rfl, ⟨by rw [List.length_drop]; omega, by omega, by omega⟩, ⟨hd⟩, ⟨rfl, ?_, trivial⟩, H8, HB, HW⟩
                            rw [hr8, blks, hz]
              · rw [if_neg c10] at H
                have c10b0 : (((x3_2.length : Int) % 64) == 56) = false := beq_eq_false_iff_ne.mpr c10
                have c10b1 : (((x3_2.length : Int) % 64) != 56) = true := bne_iff_ne.mpr c10
                by_cases c18 : x3_2.length < 140737488355328
                · rw [if_pos c18] at H
                  have LMc18 := Aside0.mk c18
                  clear c18
                  obtain ⟨y109, hy109⟩ : ∃ y_ : List Int, y_ = (x3_2 ++ [0]) := ⟨_, rfl⟩
                  replace H : (sha_pad.l1 k2 y109 (IntKind.u64.wrap ((IntKind.u64.wrap ((x3_1.length : Int))) * 8))) = some X_ := by first | (rw [hy109]; with_reducible exact H) | (have H2_ := (Option.bind_some _ _).symm.trans H; rw [hy109]; with_reducible exact H2_) | (have H2_ := (Option.bind_some _ _).symm.trans H; with_reducible exact H2_) | with_reducible exact H | (rw [hy109]; exact H) | exact H
                  have Ny109 := Aside0.mk hy109
                  clear hy109
                  have H' := Aside0.mk H
                  clear H
                  obtain ⟨Ao19, co19, eo19⟩ := Kd.R_slice HO_3.out
                  subst eo19
                  go_wp2_with (first | ((with_reducible refine gate_builtin (b := .append) (xs := #[.tmp 34, .tmp 35]) rfl ?_); (apply Classical.byContradiction; intro hcc_)))
                  refine hcc_ ?_
                  clear hcc_
                  at_builtin
                  refine Kd.R_append (Kd.int .u8) (w0 := w) w.heap.size rfl (.tmp 34) (.tmp 35) 22 5 (.int .u8 0) 1 rfl Try.underlying22 info5 rfl (by decide) (by omega) (.slice Ao19 x3_2.length co19) x3_2 0 [.int .u8 0] (fun _ => True) (fun _ => False) rfl rfl ?aP (fun _ hk => hk.elim) ?aF ?aO ?aB ?aS ?aL ?_
                  (case aP => exact rfl)
                  (case aB => exact (by repeat (first | (with_reducible first | exact HB.out | apply below_alloc | apply pw_below_drewN | apply below_drew1) | exact HB.out)))
                  (case aF => exact (fun _ _ => trivial))
                  (case aO => exact (by (with_reducible repeat (first | apply Kd.R_alloc | apply Kd.R_drewN | apply Kd.R_drew)); exact HO_3.out))
                  (case aS => exact (below_size (by repeat (first | (with_reducible first | exact HB.out | apply below_alloc | apply pw_below_drewN | apply below_drew1) | exact HB.out))))
                  (case aL => have := LMc18.out; omega)
                  intro v110 w20 ho hb hg hat
                  rw [← Ny109.out] at ho
                  have n0_ := Aside0.mk (hb)
                  have n1_ := Aside0.mk (ho)
                  clear HB
                  clear HO_3
                  have HB := n0_
                  have HO111 := n1_
                  clear n0_ n1_
                  clear ho hb hg hat
                  go_wp2
                  go_roundg k2
                  case measure => have := HK1.out; have := HK2.out; omega
                  case rel => exact ⟨(y109), H', ⟨by have := HK1.out; have := HK2.out; omega⟩, ⟨by (with_reducible repeat (first | apply Kd.R_alloc | apply Kd.R_drewN | apply Kd.R_drew)); (first | exact HO111.out | exact Kd.R_mono HO111.out (fun k_ h_ => h_.1))⟩, ⟨by repeat (first | (with_reducible first | exact HB.out | apply below_alloc | apply pw_below_drewN | apply below_drew1) | exact HB.out)⟩⟩
                · rw [if_neg c18] at H
                  exact absurd H (by simp)
        · rw [if_neg c7] at H
          exact absurd H (by simp)

end Go.Proofs.Ytfgiihaefabblaa.A
