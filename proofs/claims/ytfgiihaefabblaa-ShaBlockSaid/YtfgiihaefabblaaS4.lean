import Derived.Test.YtfgiihaefabblaaS2
import Derived.Test.YtfgiihaefabblaaS3
import Derived.Test.YtfgiihaefabblaaSb
import Derived.StillTailTactics
namespace Go.Proofs.Ytfgiihaefabblaa.A
open Go.RowKit Go.Proofs.YtfgiihaefabblaaW.PrintWords Go.Proofs.YtfgiihaefabblaaW.PrintLast Go.Proofs.YtfgiihaefabblaaW.PrintMore
attribute [local go_sem] max2_int min2_int max_two min_two max_three min_three max_four min_four
set_option linter.unusedVariables false
set_option maxHeartbeats 4000000 in
set_option maxRecDepth 100000 in
theorem sha_Block.calls (h : List Int) (hh : h.length = 8) (A0 : Option Addr) (c0 : Nat) (l0 : List Int) (w : World) (hr0 : Kd.C (Kd.int .u8) w A0 l0.length l0) (hc0 : l0.length ≤ c0) : Calls Try.prog 10 #[.agg (ar h), .slice A0 l0.length c0] w fun e w' => e = .returned (.agg (ar (blockF h l0))) ∧ Below w.heap.size w w' := by
  have HR0 := Aside0.mk hr0
  have HC0 := Aside0.mk hc0
  have HL := Aside0.mk hh
  have HB := Aside0.mk (Below.refl w.heap.size w)
  clear hr0 hc0 hh
  by_cases h64 : l0.length = 64
  · have H64 := Aside0.mk h64
    have HF := Aside0.mk (show blockF h l0 = fi h (rs h (sp l0 64) 64) 8 by unfold blockF; rw [if_pos h64])
    rw [h64]
    clear h64
    go_enter Try.func10, Try.ntmps10
    go_wp2_with (first
      | ((with_reducible refine gate_dst (N := 2) rfl ?_); refine box_event rfl (N := 2) rfl (cs := ar (h)) (t := 28) ?hr ?_; (case hr => first | (go_simp; done) | (go_simp; rfl)); intro g2 eg_ w2_ hc_ hb_; skip; have G2 := Aside0.mk (show w.heap.size ≤ g2 by have := HB.out.size; omega); have n_ := Aside0.mk (below_step HB.out hb_); clear HB; have HB := n_; clear n_; have H2 : Aside0 (AR w2_ g2 28 8 (h)) := ⟨⟨HL.out, hc_⟩⟩; clear hc_ hb_ eg_)
      | ((with_reducible refine gate_dst (N := 4) rfl ?_); refine box_event rfl (N := 4) rfl (cs := ar (List.replicate 8 0)) (t := 28) ?hr ?_; (case hr => first | (go_simp; done) | (go_simp; rfl)); intro g4 eg_ w4_ hc_ hb_; have O24 := Aside0.mk (show g2 ≠ g4 by have := H2.out.lt; omega); have G4 := Aside0.mk (show w.heap.size ≤ g4 by have := HB.out.size; omega); have n_ := Aside0.mk (H2.out.below hb_); clear H2; have H2 := n_; clear n_; have n_ := Aside0.mk (below_step HB.out hb_); clear HB; have HB := n_; clear n_; have H4 : Aside0 (AR w4_ g4 28 8 (List.replicate 8 0)) := ⟨⟨rfl, hc_⟩⟩; clear hc_ hb_ eg_)
      | ((with_reducible refine gate_callee (f := 12) rfl ?_); refine goesL_ (some 20) rfl rfl Try.func12 (by kernel_rfl) rfl #[] rfl (by (try simp only [List.map_toArray, List.map_cons, List.map_nil]); first | done | rfl) ?_; (with_reducible refine (sha_words.calls _).mono ?_); rintro e w20c_ ⟨rfl, hb_⟩; refine ⟨_, rfl, ?_⟩; have n_ := Aside0.mk (H2.out.below hb_); clear H2; have H2 := n_; clear n_; have n_ := Aside0.mk (H4.out.below hb_); clear H4; have H4 := n_; clear n_; have n_ := Aside0.mk (below_step HB.out hb_); clear HB; have HB := n_; clear n_; clear hb_)
      | ((with_reducible refine gate_callee (f := 13) rfl ?_); refine goesL_ (some 22) rfl rfl Try.func13 (by kernel_rfl) rfl #[.slice A0 64 c0] rfl (by (try simp only [List.map_toArray, List.map_cons, List.map_nil]); first | done | rfl) ?_; (with_reducible refine (sha_spread.calls A0 c0 l0 _ (Kd.C_below HR0.out HB.out) HC0.out H64.out).mono ?_); rintro e w22c_ ⟨rfl, hb_⟩; refine ⟨_, rfl, ?_⟩; have n_ := Aside0.mk (H2.out.below hb_); clear H2; have H2 := n_; clear n_; have n_ := Aside0.mk (H4.out.below hb_); clear H4; have H4 := n_; clear n_; have n_ := Aside0.mk (below_step HB.out hb_); clear HB; have HB := n_; clear n_; clear hb_)
      | ((with_reducible refine gate_dst (N := 5) rfl ?_); refine box_event rfl (N := 5) rfl (cs := ar (List.replicate 64 0)) (t := 37) ?hr ?_; (case hr => first | (go_simp; done) | (go_simp; rfl)); intro g5 eg_ w5_ hc_ hb_; have O25 := Aside0.mk (show g2 ≠ g5 by have := H2.out.lt; omega); have O45 := Aside0.mk (show g4 ≠ g5 by have := H4.out.lt; omega); have G5 := Aside0.mk (show w.heap.size ≤ g5 by have := HB.out.size; omega); have n_ := Aside0.mk (H2.out.below hb_); clear H2; have H2 := n_; clear n_; have n_ := Aside0.mk (H4.out.below hb_); clear H4; have H4 := n_; clear n_; have n_ := Aside0.mk (below_step HB.out hb_); clear HB; have HB := n_; clear n_; have H5 : Aside0 (AR w5_ g5 37 64 (List.replicate 64 0)) := ⟨⟨rfl, hc_⟩⟩; clear hc_ hb_ eg_)
      | ((with_reducible refine gate_dst (N := 6) rfl ?_); refine box_event rfl (N := 6) rfl (cs := ar (List.replicate 64 0)) (t := 37) ?hr ?_; (case hr => first | (go_simp; done) | (go_simp; rfl)); intro g6 eg_ w6_ hc_ hb_; have O26 := Aside0.mk (show g2 ≠ g6 by have := H2.out.lt; omega); have O46 := Aside0.mk (show g4 ≠ g6 by have := H4.out.lt; omega); have O56 := Aside0.mk (show g5 ≠ g6 by have := H5.out.lt; omega); have G6 := Aside0.mk (show w.heap.size ≤ g6 by have := HB.out.size; omega); have n_ := Aside0.mk (H2.out.below hb_); clear H2; have H2 := n_; clear n_; have n_ := Aside0.mk (H4.out.below hb_); clear H4; have H4 := n_; clear n_; have n_ := Aside0.mk (H5.out.below hb_); clear H5; have H5 := n_; clear n_; have n_ := Aside0.mk (below_step HB.out hb_); clear HB; have HB := n_; clear n_; have H6 : Aside0 (AR w6_ g6 37 64 (List.replicate 64 0)) := ⟨⟨rfl, hc_⟩⟩; clear hc_ hb_ eg_)
      | ((with_reducible refine gate_store (t := 37) (p := 5) rfl ?_); refine ar_store_step rfl rfl 37 _ _ rfl g5 37 64 _ (ks) rfl rfl H5.out rfl (by kernel_rfl) ?_; intro w5p_ hw_; have n_ : Aside0 (AR w5p_ g2 28 8 (h)) := ⟨by rw [hw_]; exact H2.out.apart O25.out.symm⟩; clear H2; have H2 := n_; clear n_; have n_ : Aside0 (AR w5p_ g4 28 8 (List.replicate 8 0)) := ⟨by rw [hw_]; exact H4.out.apart O45.out.symm⟩; clear H4; have H4 := n_; clear n_; have n_ : Aside0 (AR w5p_ g5 37 64 (ks)) := ⟨by rw [hw_]; exact H5.out.put (ks) rfl⟩; clear H5; have H5 := n_; clear n_; have n_ : Aside0 (AR w5p_ g6 37 64 (List.replicate 64 0)) := ⟨by rw [hw_]; exact H6.out.apart O56.out⟩; clear H6; have H6 := n_; clear n_; have n_ : Aside0 (Below w.heap.size w w5p_) := ⟨by rw [hw_]; exact below_put HB.out G5.out⟩; clear HB; have HB := n_; clear n_; clear hw_)
      | ((with_reducible refine gate_store (t := 37) (p := 6) rfl ?_); refine ar_store_step rfl rfl 37 _ _ rfl g6 37 64 _ (sp l0 64) rfl rfl H6.out (sp_len _ _) (by kernel_rfl) ?_; intro w6p_ hw_; have n_ : Aside0 (AR w6p_ g2 28 8 (h)) := ⟨by rw [hw_]; exact H2.out.apart O26.out.symm⟩; clear H2; have H2 := n_; clear n_; have n_ : Aside0 (AR w6p_ g4 28 8 (List.replicate 8 0)) := ⟨by rw [hw_]; exact H4.out.apart O46.out.symm⟩; clear H4; have H4 := n_; clear n_; have n_ : Aside0 (AR w6p_ g5 37 64 (ks)) := ⟨by rw [hw_]; exact H5.out.apart O56.out.symm⟩; clear H5; have H5 := n_; clear n_; have n_ : Aside0 (AR w6p_ g6 37 64 (sp l0 64)) := ⟨by rw [hw_]; exact H6.out.put (sp l0 64) (sp_len _ _)⟩; clear H6; have H6 := n_; clear n_; have n_ : Aside0 (Below w.heap.size w w6p_) := ⟨by rw [hw_]; exact below_put HB.out G6.out⟩; clear HB; have HB := n_; clear n_; clear hw_)
      | ((with_reducible refine gate_dst (N := 23) rfl ?_); refine ar_load_step 23 rfl rfl 28 _ rfl g2 28 8 8 _ rfl H2.out 27 Try.underlying28 (by kernel_rfl) ?_)
      | ((with_reducible refine gate_dst (N := 7) rfl ?_); refine box_event rfl (N := 7) rfl (cs := ar (List.replicate 8 0)) (t := 28) ?hr ?_; (case hr => first | (go_simp; done) | (go_simp; rfl)); intro g7 eg_ w7_ hc_ hb_; have O27 := Aside0.mk (show g2 ≠ g7 by have := H2.out.lt; omega); have O47 := Aside0.mk (show g4 ≠ g7 by have := H4.out.lt; omega); have O57 := Aside0.mk (show g5 ≠ g7 by have := H5.out.lt; omega); have O67 := Aside0.mk (show g6 ≠ g7 by have := H6.out.lt; omega); have G7 := Aside0.mk (show w.heap.size ≤ g7 by have := HB.out.size; omega); have n_ := Aside0.mk (H2.out.below hb_); clear H2; have H2 := n_; clear n_; have n_ := Aside0.mk (H4.out.below hb_); clear H4; have H4 := n_; clear n_; have n_ := Aside0.mk (H5.out.below hb_); clear H5; have H5 := n_; clear n_; have n_ := Aside0.mk (H6.out.below hb_); clear H6; have H6 := n_; clear n_; have n_ := Aside0.mk (below_step HB.out hb_); clear HB; have HB := n_; clear n_; have H7 : Aside0 (AR w7_ g7 28 8 (List.replicate 8 0)) := ⟨⟨rfl, hc_⟩⟩; clear hc_ hb_ eg_)
      | ((with_reducible refine gate_store (t := 28) (p := 7) rfl ?_); refine ar_store_step rfl rfl 28 _ _ rfl g7 28 8 _ (h) rfl rfl H7.out HL.out (by kernel_rfl) ?_; intro w7p_ hw_; have n_ : Aside0 (AR w7p_ g2 28 8 (h)) := ⟨by rw [hw_]; exact H2.out.apart O27.out.symm⟩; clear H2; have H2 := n_; clear n_; have n_ : Aside0 (AR w7p_ g4 28 8 (List.replicate 8 0)) := ⟨by rw [hw_]; exact H4.out.apart O47.out.symm⟩; clear H4; have H4 := n_; clear n_; have n_ : Aside0 (AR w7p_ g5 37 64 (ks)) := ⟨by rw [hw_]; exact H5.out.apart O57.out.symm⟩; clear H5; have H5 := n_; clear n_; have n_ : Aside0 (AR w7p_ g6 37 64 (sp l0 64)) := ⟨by rw [hw_]; exact H6.out.apart O67.out.symm⟩; clear H6; have H6 := n_; clear n_; have n_ : Aside0 (AR w7p_ g7 28 8 (h)) := ⟨by rw [hw_]; exact H7.out.put (h) HL.out⟩; clear H7; have H7 := n_; clear n_; have n_ : Aside0 (Below w.heap.size w w7p_) := ⟨by rw [hw_]; exact below_put HB.out G7.out⟩; clear HB; have HB := n_; clear n_; clear hw_))
    go_loopg [24] 64 (fun kq v24 w' => ∃ (x : Int) (t : Nat), v24 = .int .i64 x ∧ Aside0 (x = t ∧ t + kq = 64) ∧ Aside0 (AR w' g2 28 8 h) ∧ Aside0 (AR w' g4 28 8 (List.replicate 8 0)) ∧ Aside0 (AR w' g5 37 64 ks) ∧ Aside0 (AR w' g6 37 64 (sp l0 64)) ∧ Aside0 (AR w' g7 28 8 (rs h (sp l0 64) t)) ∧ Aside0 (Below w.heap.size w w'))
    case atStart => exact ⟨0, 0, rfl, ⟨rfl, rfl⟩, H2, H4, H5, H6, H7, HB⟩
    case round =>
      clear H2 H4 H5 H6 H7 HB
      obtain ⟨x, t, rfl, HX, H2, H4, H5, H6, H7, HB⟩ := hrel
      obtain ⟨hx, ht⟩ := HX.out
      cases gk with
      | zero =>
        have c1 : decide (x < 64) = false := decide_eq_false (by omega)
        have e64 : t = 64 := by omega
        clear hx ht
        subst e64
        go_wp2_with fail
        clear c1
        go_loopg [106] 8 (fun kq v106 w' => ∃ (y : Int) (i : Nat), v106 = .int .i64 y ∧ Aside0 (y = i ∧ i + kq = 8) ∧ Aside0 (AR w' g2 28 8 (fi h (rs h (sp l0 64) 64) i)) ∧ Aside0 (AR w' g4 28 8 (List.replicate 8 0)) ∧ Aside0 (AR w' g7 28 8 (rs h (sp l0 64) 64)) ∧ Aside0 (Below w.heap.size w w'))
        case atStart => exact ⟨0, 0, rfl, ⟨rfl, rfl⟩, H2, H4, H7, HB⟩
        case round =>
          clear H2 H4 H5 H6 H7 HB
          obtain ⟨y, i, rfl, HY, H2, H4, H7, HB⟩ := hrel
          obtain ⟨hy, hi⟩ := HY.out
          cases gk with
          | zero =>
            have c1 : decide (y < 8) = false := decide_eq_false (by omega)
            have e8 : i = 8 := by omega
            clear hy hi
            subst e8
            go_wp2_with (first
              | ((with_reducible refine gate_dst (N := 118) rfl ?_); refine ar_load_step 118 rfl rfl 28 _ rfl g2 28 8 8 _ rfl H2.out 27 Try.underlying28 (by kernel_rfl) ?_)
              | ((with_reducible refine gate_store (t := 28) (p := 4) rfl ?_); refine ar_store_step rfl rfl 28 _ _ rfl g4 28 8 _ (fi h (rs h (sp l0 64) 64) 8) rfl rfl H4.out (fi_len _ _ HL.out _) (by kernel_rfl) ?_; intro w4p_ hw_; have n_ : Aside0 (AR w4p_ g2 28 8 (fi h (rs h (sp l0 64) 64) 8)) := ⟨by rw [hw_]; exact H2.out.apart O24.out.symm⟩; clear H2; have H2 := n_; clear n_; have n_ : Aside0 (AR w4p_ g4 28 8 (fi h (rs h (sp l0 64) 64) 8)) := ⟨by rw [hw_]; exact H4.out.put (fi h (rs h (sp l0 64) 64) 8) (fi_len _ _ HL.out _)⟩; clear H4; have H4 := n_; clear n_; have n_ : Aside0 (AR w4p_ g7 28 8 (rs h (sp l0 64) 64)) := ⟨by rw [hw_]; exact H7.out.apart O47.out⟩; clear H7; have H7 := n_; clear n_; have n_ : Aside0 (Below w.heap.size w w4p_) := ⟨by rw [hw_]; exact below_put HB.out G4.out⟩; clear HB; have HB := n_; clear n_; clear hw_))
            exact bodyPost_ret (v := .agg (ar (blockF h l0))) (ar_result rfl rfl (by rw [HF.out]; exact H4.out) 27 Try.underlying28 (by kernel_rfl)) rfl ⟨rfl, HB.out⟩
          | succ k2 =>
            have c1 : decide (y < 8) = true := decide_eq_true (by omega)
            have p0 : (0 ≤ y) = True := eq_true (by omega)
            have p1 : (y < 8) = True := eq_true (by omega)
            have a2 := H2.out.cell y.toNat (by omega)
            have a7 := H7.out.cell y.toNat (by omega)
            have f2 := H2.out.froz y.toNat
            obtain ⟨X, hX⟩ : ∃ X, (fi h (rs h (sp l0 64) 64) i).getD y.toNat 0 = X := ⟨_, rfl⟩
            obtain ⟨Y, hY⟩ : ∃ X, (rs h (sp l0 64) 64).getD y.toNat 0 = X := ⟨_, rfl⟩
            rw [hX] at a2
            rw [hY] at a7
            have HV := Aside0.mk (And.intro hX hY)
            have HY := Aside0.mk (And.intro hy hi)
            have KEEP := Aside0.mk (show ∀ (m : Nat) (v : Value), ((wr.drewN m).setCell ⟨g2, y.toNat, none⟩ v).cell? ⟨g7, y.toNat, none⟩ = some (.int .u32 Y) from fun m v => (World.cell?_setCell_other (wr.drewN m) ⟨g2, y.toNat, none⟩ ⟨g7, y.toNat, none⟩ v (by intro h; injection h; exact O27.out (by assumption))).trans a7)
            clear hX hY hy hi
            go_wp2_with fail
            go_still_tail 8, (by kernel_rfl)
            change wpList _ _ _ _ _ wr.drew
            go_wp2_with fail
            go_roundg k2
            case measure => omega
            case rel =>
              obtain ⟨hy, hi⟩ := HY.out
              obtain ⟨hX, hY⟩ := HV.out
              have ey : y.toNat = i := by omega
              refine ⟨_, i + 1, rfl, ⟨?_, by omega⟩, ⟨?_⟩, ⟨?_⟩, ⟨?_⟩, ⟨?_⟩⟩
              · show wrap64 (y + 1) = _
                rw [← i64_w, i64_of _ (by omega) (by omega)]; omega
              · have := (H2.out.set y.toNat (ad X Y)).drew
                rw [ey] at hX hY this ⊢
                rw [fi]
                unfold gw
                rw [hX, hY]
                exact this
              · exact (H4.out.away (by show g4 ≠ g2; exact O24.out.symm)).drew
              · exact (H7.out.away (by show g7 ≠ g2; exact O27.out.symm)).drew
              · exact below_drew1 (below_set HB.out G2.out)
      | succ k1 =>
        have c1 : decide (x < 64) = true := decide_eq_true (by omega)
        have p0 : (0 ≤ x) = True := eq_true (by omega)
        have p1 : (x < 64) = True := eq_true (by omega)
        have a0 := H7.out.cell 0 (by omega)
        have a1 := H7.out.cell 1 (by omega)
        have a2 := H7.out.cell 2 (by omega)
        have a3 := H7.out.cell 3 (by omega)
        have a4 := H7.out.cell 4 (by omega)
        have a5 := H7.out.cell 5 (by omega)
        have a6 := H7.out.cell 6 (by omega)
        have a7 := H7.out.cell 7 (by omega)
        have ak := H5.out.cell x.toNat (by omega)
        have aw := H6.out.cell x.toNat (by omega)
        obtain ⟨v0, e0⟩ : ∃ X, (rs h (sp l0 64) t).getD 0 0 = X := ⟨_, rfl⟩
        obtain ⟨v1, e1⟩ : ∃ X, (rs h (sp l0 64) t).getD 1 0 = X := ⟨_, rfl⟩
        obtain ⟨v2, e2⟩ : ∃ X, (rs h (sp l0 64) t).getD 2 0 = X := ⟨_, rfl⟩
        obtain ⟨v3, e3⟩ : ∃ X, (rs h (sp l0 64) t).getD 3 0 = X := ⟨_, rfl⟩
        obtain ⟨v4, e4⟩ : ∃ X, (rs h (sp l0 64) t).getD 4 0 = X := ⟨_, rfl⟩
        obtain ⟨v5, e5⟩ : ∃ X, (rs h (sp l0 64) t).getD 5 0 = X := ⟨_, rfl⟩
        obtain ⟨v6, e6⟩ : ∃ X, (rs h (sp l0 64) t).getD 6 0 = X := ⟨_, rfl⟩
        obtain ⟨v7, e7⟩ : ∃ X, (rs h (sp l0 64) t).getD 7 0 = X := ⟨_, rfl⟩
        obtain ⟨kk, ek⟩ : ∃ X, ks.getD x.toNat 0 = X := ⟨_, rfl⟩
        obtain ⟨ww, ew⟩ : ∃ X, (sp l0 64).getD x.toNat 0 = X := ⟨_, rfl⟩
        rw [e0] at a0
        rw [e1] at a1
        rw [e2] at a2
        rw [e3] at a3
        rw [e4] at a4
        rw [e5] at a5
        rw [e6] at a6
        rw [e7] at a7
        rw [ek] at ak
        rw [ew] at aw
        have HV := Aside0.mk (And.intro (And.intro e0 (And.intro e1 (And.intro e2 e3))) (And.intro (And.intro e4 (And.intro e5 (And.intro e6 e7))) (And.intro ek ew)))
        have HX := Aside0.mk (And.intro hx ht)
        clear e0 e1 e2 e3 e4 e5 e6 e7 ek ew hx ht
        go_wp2_with fail
        go_quiet (fail)
        go_wp2_with (first
          | ((with_reducible refine gate_callee (f := 14) rfl ?_); refine goesL_ (some 32) rfl rfl Try.func14 (by kernel_rfl) rfl #[.int .u32 v4, .int .i64 6] rfl (by (try simp only [List.map_toArray, List.map_cons, List.map_nil]); first | done | rfl) ?_; (with_reducible refine (sha_turn.calls v4 6 _ _ (tn6 v4)).mono ?_); rintro e w' ⟨rfl, ⟨nd, rfl⟩⟩; refine ⟨_, rfl, ?_⟩)
          | ((with_reducible refine gate_callee (f := 14) rfl ?_); refine goesL_ (some 34) rfl rfl Try.func14 (by kernel_rfl) rfl #[.int .u32 v4, .int .i64 11] rfl (by (try simp only [List.map_toArray, List.map_cons, List.map_nil]); first | done | rfl) ?_; (with_reducible refine (sha_turn.calls v4 11 _ _ (tn11 v4)).mono ?_); rintro e w' ⟨rfl, ⟨nd, rfl⟩⟩; refine ⟨_, rfl, ?_⟩)
          | ((with_reducible refine gate_callee (f := 14) rfl ?_); refine goesL_ (some 37) rfl rfl Try.func14 (by kernel_rfl) rfl #[.int .u32 v4, .int .i64 25] rfl (by (try simp only [List.map_toArray, List.map_cons, List.map_nil]); first | done | rfl) ?_; (with_reducible refine (sha_turn.calls v4 25 _ _ (tn25 v4)).mono ?_); rintro e w' ⟨rfl, ⟨nd, rfl⟩⟩; refine ⟨_, rfl, ?_⟩))
        go_quiet (fail)
        go_wp2_with (first
          | ((with_reducible refine gate_callee (f := 14) rfl ?_); refine goesL_ (some 63) rfl rfl Try.func14 (by kernel_rfl) rfl #[.int .u32 v0, .int .i64 2] rfl (by (try simp only [List.map_toArray, List.map_cons, List.map_nil]); first | done | rfl) ?_; (with_reducible refine (sha_turn.calls v0 2 _ _ (tn2 v0)).mono ?_); rintro e w' ⟨rfl, ⟨nd, rfl⟩⟩; refine ⟨_, rfl, ?_⟩)
          | ((with_reducible refine gate_callee (f := 14) rfl ?_); refine goesL_ (some 65) rfl rfl Try.func14 (by kernel_rfl) rfl #[.int .u32 v0, .int .i64 13] rfl (by (try simp only [List.map_toArray, List.map_cons, List.map_nil]); first | done | rfl) ?_; (with_reducible refine (sha_turn.calls v0 13 _ _ (tn13 v0)).mono ?_); rintro e w' ⟨rfl, ⟨nd, rfl⟩⟩; refine ⟨_, rfl, ?_⟩)
          | ((with_reducible refine gate_callee (f := 14) rfl ?_); refine goesL_ (some 68) rfl rfl Try.func14 (by kernel_rfl) rfl #[.int .u32 v0, .int .i64 22] rfl (by (try simp only [List.map_toArray, List.map_cons, List.map_nil]); first | done | rfl) ?_; (with_reducible refine (sha_turn.calls v0 22 _ _ (tn22 v0)).mono ?_); rintro e w' ⟨rfl, ⟨nd, rfl⟩⟩; refine ⟨_, rfl, ?_⟩)
          | ((with_reducible refine gate_store (t := 28) (p := 7) rfl ?_); refine ar_store_step rfl rfl 28 _ _ rfl g7 28 8 _ ([(v7 + sgE v4 + chF v4 v5 v6 + kk + ww + (sgA v0 + mjF v0 v1 v2)) % 4294967296, v0, v1, v2, (v3 + (v7 + sgE v4 + chF v4 v5 v6 + kk + ww)) % 4294967296, v4, v5, v6]) rfl rfl (H7.out.drewN _) rfl (by kernel_rfl) ?_; intro w7p_ hw_; have n_ : Aside0 (AR w7p_ g2 28 8 (h)) := ⟨by rw [hw_]; exact (H2.out.drewN _).apart O27.out.symm⟩; clear H2; have H2 := n_; clear n_; have n_ : Aside0 (AR w7p_ g4 28 8 (List.replicate 8 0)) := ⟨by rw [hw_]; exact (H4.out.drewN _).apart O47.out.symm⟩; clear H4; have H4 := n_; clear n_; have n_ : Aside0 (AR w7p_ g5 37 64 (ks)) := ⟨by rw [hw_]; exact (H5.out.drewN _).apart O57.out.symm⟩; clear H5; have H5 := n_; clear n_; have n_ : Aside0 (AR w7p_ g6 37 64 (sp l0 64)) := ⟨by rw [hw_]; exact (H6.out.drewN _).apart O67.out.symm⟩; clear H6; have H6 := n_; clear n_; have n_ : Aside0 (AR w7p_ g7 28 8 ([(v7 + sgE v4 + chF v4 v5 v6 + kk + ww + (sgA v0 + mjF v0 v1 v2)) % 4294967296, v0, v1, v2, (v3 + (v7 + sgE v4 + chF v4 v5 v6 + kk + ww)) % 4294967296, v4, v5, v6])) := ⟨by rw [hw_]; exact (H7.out.drewN _).put ([(v7 + sgE v4 + chF v4 v5 v6 + kk + ww + (sgA v0 + mjF v0 v1 v2)) % 4294967296, v0, v1, v2, (v3 + (v7 + sgE v4 + chF v4 v5 v6 + kk + ww)) % 4294967296, v4, v5, v6]) rfl⟩; clear H7; have H7 := n_; clear n_; have n_ : Aside0 (Below w.heap.size w w7p_) := ⟨by rw [hw_]; exact below_put (pw_below_drewN HB.out _) G7.out⟩; clear HB; have HB := n_; clear n_; clear hw_))
        go_roundg k1
        case measure => omega
        case rel =>
          obtain ⟨hx, ht⟩ := HX.out
          obtain ⟨⟨e0, e1, e2, e3⟩, ⟨e4, e5, e6, e7⟩, ek, ew⟩ := HV.out
          have ex : x.toNat = t := by omega
          refine ⟨_, t + 1, rfl, ⟨?_, by omega⟩, H2, H4, H5, H6, ⟨?_⟩, HB⟩
          · show wrap64 (x + 1) = _
            rw [← i64_w, i64_of _ (by omega) (by omega)]; omega
          · rw [ex] at ek ew
            rw [rs]
            unfold rnd su gw
            rw [e0, e1, e2, e3, e4, e5, e6, e7, ek, ew]
            exact H7.out
  · have HF := Aside0.mk (show blockF h l0 = h by unfold blockF; rw [if_neg h64])
    have cn : ((l0.length : Int) = 64) = False := eq_false (by omega)
    have cm : (l0.length = 64) = False := eq_false h64
    go_enter Try.func10, Try.ntmps10
    go_wp2_with (first
      | ((with_reducible refine gate_dst (N := 2) rfl ?_); refine box_event rfl (N := 2) rfl (cs := ar (h)) (t := 28) ?hr ?_; (case hr => first | (go_simp; done) | (go_simp; rfl)); intro g2 eg_ w2_ hc_ hb_; skip; have G2 := Aside0.mk (show w.heap.size ≤ g2 by have := HB.out.size; omega); have n_ := Aside0.mk (below_step HB.out hb_); clear HB; have HB := n_; clear n_; have H2 : Aside0 (AR w2_ g2 28 8 (h)) := ⟨⟨HL.out, hc_⟩⟩; clear hc_ hb_ eg_)
      | ((with_reducible refine gate_dst (N := 4) rfl ?_); refine box_event rfl (N := 4) rfl (cs := ar (List.replicate 8 0)) (t := 28) ?hr ?_; (case hr => first | (go_simp; done) | (go_simp; rfl)); intro g4 eg_ w4_ hc_ hb_; have O24 := Aside0.mk (show g2 ≠ g4 by have := H2.out.lt; omega); have G4 := Aside0.mk (show w.heap.size ≤ g4 by have := HB.out.size; omega); have n_ := Aside0.mk (H2.out.below hb_); clear H2; have H2 := n_; clear n_; have n_ := Aside0.mk (below_step HB.out hb_); clear HB; have HB := n_; clear n_; have H4 : Aside0 (AR w4_ g4 28 8 (List.replicate 8 0)) := ⟨⟨rfl, hc_⟩⟩; clear hc_ hb_ eg_)
      | ((with_reducible refine gate_dst (N := 19) rfl ?_); refine ar_load_step 19 rfl rfl 28 _ rfl g2 28 8 8 _ rfl H2.out 27 Try.underlying28 (by kernel_rfl) ?_)
      | ((with_reducible refine gate_store (t := 28) (p := 4) rfl ?_); refine ar_store_step rfl rfl 28 _ _ rfl g4 28 8 _ (h) rfl rfl H4.out HL.out (by kernel_rfl) ?_; intro w4p_ hw_; have n_ : Aside0 (AR w4p_ g2 28 8 (h)) := ⟨by rw [hw_]; exact H2.out.apart O24.out.symm⟩; clear H2; have H2 := n_; clear n_; have n_ : Aside0 (AR w4p_ g4 28 8 (h)) := ⟨by rw [hw_]; exact H4.out.put (h) HL.out⟩; clear H4; have H4 := n_; clear n_; have n_ : Aside0 (Below w.heap.size w w4p_) := ⟨by rw [hw_]; exact below_put HB.out G4.out⟩; clear HB; have HB := n_; clear n_; clear hw_))
    exact bodyPost_ret (v := .agg (ar (blockF h l0))) (ar_result rfl rfl (by rw [HF.out]; exact H4.out) 27 Try.underlying28 (by kernel_rfl)) rfl ⟨rfl, HB.out⟩
end Go.Proofs.Ytfgiihaefabblaa.A
