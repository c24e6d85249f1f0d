import Derived.Test.YtfgiihaefabblaaSK
import Derived.Test.YtfgiihaefabblaaS7
import Derived.Test.YtfgiihaefabblaaS11
import Derived.Deep.RegionWith
import Derived.Deep.RegionHeld3
import Derived.Deep.DrawnRows
import Derived.Deep.QuietTactic
import Derived.BigQuiet
import Derived.ChangeKeysEq
namespace Go.Proofs.Ytfgiihaefabblaa.A
open Go.RowKit Go.Proofs.YtfgiihaefabblaaW.PrintWords Go.Proofs.YtfgiihaefabblaaW.PrintLast Go.Proofs.YtfgiihaefabblaaW.PrintMore
attribute [local go_sem] max2_int min2_int max_two min_two max_three min_three max_four min_four
attribute [local go_sem ↓] Go.wp_at_zero Go.wp_at_succ
set_option linter.unusedVariables false
set_option linter.unusedSimpArgs false
theorem eq_items (d : Nat) (e : TypeId) (P : Program) (he : P.underlying e = some (.int .u32)) (hs : (P.info? e).map (·.size) = some 1) (l : List Int) (w : World) : ∀ is : List Nat, (∀ i ∈ is, i < l.length) → (Op.eqItems (d + 1) e 1 (ar l) (ar l) is).run P w = .ok true w
  | [], _ => by simp [Op.eqItems]
  | i :: is, h => by
    have hi := h i (by simp)
    have hg := ar_get l i hi
    have hp : (part e (ar l) (i * 1)).run P w = .ok (.int .u32 (l.getD i 0)) w := by
      simp [part, isAgg, run_underlying he, Sem.run_bind, Result.andThen, hg]
    have hq := run_equalIn_int (P := P) w d e .u32 .u32 (l.getD i 0) (l.getD i 0) he
    rw [Op.eqItems]
    simp only [Sem.run_bind, hp, Result.andThen_ok, hq, beq_self_eq_true, Bool.not_true, Bool.false_eq_true, if_false]
    exact eq_items d e P he hs l w is fun j hj => h j (by simp [hj])
theorem eq_arr (l : List Int) (hl : l.length = 8) (w : World) : (Op.equalIn 10000 28 (.agg (ar l)) (.agg (ar l))).run Try.prog w = .ok true w := by
  obtain ⟨i0, hi⟩ : ∃ i0, Try.prog.info? 27 = some i0 := Option.isSome_iff_exists.1 (by kernel_rfl)
  have hc : Try.prog.cellsOf 27 = 1 := by kernel_rfl
  have h := run_equalIn_array (P := Try.prog) w 9999 (t := 28) (ar l) (ar l) Try.underlying28 hi
  rw [hc, eq_items 9998 27 Try.prog Try.underlying27 (by kernel_rfl) l w (List.range 8) (by intro i hi; rw [hl]; exact List.mem_range.1 hi)] at h
  exact h
set_option maxHeartbeats 4000000 in
set_option maxRecDepth 100000 in
theorem shaBlock_no (v0 : Array Value) (A0 : Option Addr) (c0 : Nat) (l0 : List Int) (w : World) (hl : 200 < l0.length) : Calls Try.prog 4 #[.agg v0, .slice A0 l0.length c0] w fun e w' => e = .returned (.bool true) ∧ Below w.heap.size w w' := by
  have c1 : decide ((200 : Int) < (l0.length : Int)) = true := decide_eq_true (by omega)
  clear hl
  go_enter Try.func4, Try.ntmps4
  go_wp2
  go_quiet (fail)
  go_wp2
  go_ret
  exact ⟨rfl, by repeat (first | exact Below.refl _ _ | apply below_alloc | apply below_drew1 | apply pw_below_drewN)⟩
set_option maxHeartbeats 8000000 in
set_option maxRecDepth 100000 in
theorem shaBlock_yes (k : Nat) (x0 x1 x2 x3 x4 x5 x6 x7 : Int) (A0 : Option Addr) (c0 : Nat) (l0 : List Int) (w : World) (hr0 : Kd.C (Kd.int .u8) w A0 l0.length l0) (hc0 : l0.length ≤ c0) (hl : l0.length ≤ 200) (hby : bytesB l0 = true) (h3 : apostillelaw6_known.f k = some true) :
    Calls Try.prog 4 #[.agg #[.int .u32 x0, .int .u32 x1, .int .u32 x2, .int .u32 x3, .int .u32 x4, .int .u32 x5, .int .u32 x6, .int .u32 x7], .slice A0 l0.length c0] w fun e w' => e = .returned (.bool true) ∧ Below w.heap.size w w' := by
  have c1 : decide ((200 : Int) < (l0.length : Int)) = false := decide_eq_false (by omega)
  have HB := Aside0.mk (Below.refl w.heap.size w)
  have HK := Aside0.mk h3
  obtain ⟨z0, z1, z2, z3, z4, z5, z6, z7, hz⟩ := eight (block_len [x0, x1, x2, x3, x4, x5, x6, x7] l0 rfl)
  have EQ := fun (w : World) => (show (Op.equalIn 10000 28 (.agg #[.int .u32 z0, .int .u32 z1, .int .u32 z2, .int .u32 z3, .int .u32 z4, .int .u32 z5, .int .u32 z6, .int .u32 z7]) (.agg #[.int .u32 z0, .int .u32 z1, .int .u32 z2, .int .u32 z3, .int .u32 z4, .int .u32 z5, .int .u32 z6, .int .u32 z7])).run Try.prog w = .ok true w from eq_arr [z0, z1, z2, z3, z4, z5, z6, z7] rfl w)
  have B10 := Aside0.mk (show ∀ (W : World), Below w.heap.size w W → Calls Try.prog 10 #[.agg #[.int .u32 x0, .int .u32 x1, .int .u32 x2, .int .u32 x3, .int .u32 x4, .int .u32 x5, .int .u32 x6, .int .u32 x7], .slice A0 l0.length c0] W fun e w' => e = .returned (.agg #[.int .u32 z0, .int .u32 z1, .int .u32 z2, .int .u32 z3, .int .u32 z4, .int .u32 z5, .int .u32 z6, .int .u32 z7]) ∧ Below W.heap.size W w' from fun W hW => by
    have h1 := sha_Block.calls [x0, x1, x2, x3, x4, x5, x6, x7] rfl A0 c0 l0 W (Kd.C_below hr0 hW) hc0
    rw [hz] at h1
    exact h1)
  have B11 := Aside0.mk (show ∀ (W : World), Below w.heap.size w W → Calls Try.prog 11 #[.agg #[.int .u32 x0, .int .u32 x1, .int .u32 x2, .int .u32 x3, .int .u32 x4, .int .u32 x5, .int .u32 x6, .int .u32 x7], .slice A0 l0.length c0] W fun e w' => e = .returned (.agg #[.int .u32 z0, .int .u32 z1, .int .u32 z2, .int .u32 z3, .int .u32 z4, .int .u32 z5, .int .u32 z6, .int .u32 z7]) ∧ Below W.heap.size W w' from fun W hW => by
    have h1 := apostilleref6_Block.calls [x0, x1, x2, x3, x4, x5, x6, x7] rfl A0 c0 l0 W (Kd.C_below hr0 hW) hc0 (fun i => bytes_rd hby i)
    rw [hz] at h1
    exact h1)
  clear hl hr0 hc0 h3 hby hz
  go_enter Try.func4, Try.ntmps4
  go_wp2_with (first
    | ((with_reducible refine gate_dst (N := 2) rfl ?_); refine box_event rfl (N := 2) rfl (cs := ar [x0, x1, x2, x3, x4, x5, x6, x7]) (t := 28) ?hr ?_; (case hr => first | (go_simp; done) | (go_simp; rfl)); intro g2 eg_ w2_ hc_ hb_; have n_ : Aside0 (Below w.heap.size w w2_) := ⟨below_step HB.out hb_⟩; clear HB; have HB := n_; clear n_; have H2 : Aside0 (AR w2_ g2 28 8 [x0, x1, x2, x3, x4, x5, x6, x7]) := ⟨⟨rfl, hc_⟩⟩; clear hc_ hb_ eg_; have a0 := H2.out.cell 0 (by decide); have a1 := H2.out.cell 1 (by decide); have a2 := H2.out.cell 2 (by decide); have a3 := H2.out.cell 3 (by decide); have a4 := H2.out.cell 4 (by decide); have a5 := H2.out.cell 5 (by decide); have a6 := H2.out.cell 6 (by decide); have a7 := H2.out.cell 7 (by decide); simp only [List.getD_cons_zero, List.getD_cons_succ] at a0 a1 a2 a3 a4 a5 a6 a7))
  go_region_with (first
    | (go_at_call 10; (with_reducible refine (B10.out _ ?hb_).mono ?_); (case hb_ => exact (by repeat (first | (with_reducible first | exact HB.out | apply below_alloc | apply pw_below_drewN | apply below_drew1) | exact HB.out))); rintro e w10_ ⟨rfl, hb_⟩; have n1_ : Aside0 (AR w10_ g2 28 8 [x0, x1, x2, x3, x4, x5, x6, x7]) := ⟨H2.out.below (below_step (by repeat (first | (with_reducible first | exact Below.refl _ _ | apply below_alloc | apply pw_below_drewN | apply below_drew1) | exact Below.refl _ _)) hb_)⟩; have n2_ : Aside0 (Below w.heap.size w w10_) := ⟨below_step (by repeat (first | (with_reducible first | exact HB.out | apply below_alloc | apply pw_below_drewN | apply below_drew1) | exact HB.out)) hb_⟩; clear a0 a1 a2 a3 a4 a5 a6 a7; clear H2 HB hb_; have H2 := n1_; have HB := n2_; clear n1_ n2_; have a0 := H2.out.cell 0 (by decide); have a1 := H2.out.cell 1 (by decide); have a2 := H2.out.cell 2 (by decide); have a3 := H2.out.cell 3 (by decide); have a4 := H2.out.cell 4 (by decide); have a5 := H2.out.cell 5 (by decide); have a6 := H2.out.cell 6 (by decide); have a7 := H2.out.cell 7 (by decide); simp only [List.getD_cons_zero, List.getD_cons_succ] at a0 a1 a2 a3 a4 a5 a6 a7)
    | (go_at_call 11; (with_reducible refine (B11.out _ ?hb_).mono ?_); (case hb_ => exact (by repeat (first | (with_reducible first | exact HB.out | apply below_alloc | apply pw_below_drewN | apply below_drew1) | exact HB.out))); rintro e w11_ ⟨rfl, hb_⟩; have n1_ : Aside0 (AR w11_ g2 28 8 [x0, x1, x2, x3, x4, x5, x6, x7]) := ⟨H2.out.below (below_step (by repeat (first | (with_reducible first | exact Below.refl _ _ | apply below_alloc | apply pw_below_drewN | apply below_drew1) | exact Below.refl _ _)) hb_)⟩; have n2_ : Aside0 (Below w.heap.size w w11_) := ⟨below_step (by repeat (first | (with_reducible first | exact HB.out | apply below_alloc | apply pw_below_drewN | apply below_drew1) | exact HB.out)) hb_⟩; clear a0 a1 a2 a3 a4 a5 a6 a7; clear H2 HB hb_; have H2 := n1_; have HB := n2_; clear n1_ n2_; have a0 := H2.out.cell 0 (by decide); have a1 := H2.out.cell 1 (by decide); have a2 := H2.out.cell 2 (by decide); have a3 := H2.out.cell 3 (by decide); have a4 := H2.out.cell 4 (by decide); have a5 := H2.out.cell 5 (by decide); have a6 := H2.out.cell 6 (by decide); have a7 := H2.out.cell 7 (by decide); simp only [List.getD_cons_zero, List.getD_cons_succ] at a0 a1 a2 a3 a4 a5 a6 a7)
    | (go_at_call 9; (with_reducible refine (apostillelaw6_known.calls k true _ HK.out).mono ?_); rintro e w9_ ⟨rfl, hb_⟩; have n1_ : Aside0 (AR w9_ g2 28 8 [x0, x1, x2, x3, x4, x5, x6, x7]) := ⟨H2.out.below (below_step (by repeat (first | (with_reducible first | exact Below.refl _ _ | apply below_alloc | apply pw_below_drewN | apply below_drew1) | exact Below.refl _ _)) hb_)⟩; have n2_ : Aside0 (Below w.heap.size w w9_) := ⟨below_step (by repeat (first | (with_reducible first | exact HB.out | apply below_alloc | apply pw_below_drewN | apply below_drew1) | exact HB.out)) hb_⟩; clear a0 a1 a2 a3 a4 a5 a6 a7; clear H2 HB hb_; have H2 := n1_; have HB := n2_; clear n1_ n2_; have a0 := H2.out.cell 0 (by decide); have a1 := H2.out.cell 1 (by decide); have a2 := H2.out.cell 2 (by decide); have a3 := H2.out.cell 3 (by decide); have a4 := H2.out.cell 4 (by decide); have a5 := H2.out.cell 5 (by decide); have a6 := H2.out.cell 6 (by decide); have a7 := H2.out.cell 7 (by decide); simp only [List.getD_cons_zero, List.getD_cons_succ] at a0 a1 a2 a3 a4 a5 a6 a7))
  all_goals (go_wp2; go_ret; exact ⟨rfl, (by repeat (first | (with_reducible first | exact HB.out | apply below_alloc | apply pw_below_drewN | apply below_drew1) | exact HB.out))⟩)
theorem shaBlock_walk (h : List Int) (hh : h.length = 8) (a0 : Option Addr) (len0 cap0 : Nat) (z0 : List Int) (w : World) (w0 : (a0 = none ∧ len0 = 0 ∧ cap0 = 0 ∧ z0 = []) ∨ ∃ x, a0 = some x ∧ len0 ≤ cap0 ∧ cap0 ≤ maxLen ∧ z0.length = cap0 ∧ (∀ i, i < z0.length → w.cell? (x.add i) = some (.int .u8 (z0.getD i 0))) ∧ ∀ n ∈ z0, (Lit.int .u8 n).wf = true) :
    Calls Try.prog 4 #[.agg (ar h), .slice a0 len0 cap0] w fun e w' => e = .returned (.bool true) ∧ Below w.heap.size w w' := by
  obtain ⟨l0, rfl, hr0, hm0, hw0, hc0⟩ := ReadsInt.ofRowC w0
  by_cases hl : 200 < l0.length
  · exact shaBlock_no (ar h) a0 cap0 l0 w hl
  · obtain ⟨x0, x1, x2, x3, x4, x5, x6, x7, rfl⟩ := eight hh
    obtain ⟨k, hk⟩ := known6.rounds
    exact shaBlock_yes k x0 x1 x2 x3 x4 x5 x6 x7 a0 cap0 l0 w (Kd.C_of_reads (d := (0 : Int)) (h1 := fun _ => rfl) hr0) hc0 (by omega) (bytes_wf hw0) hk
end Go.Proofs.Ytfgiihaefabblaa.A
