import Derived.Test.YtfgiihaefabblaaSc
import Derived.StillTailTactics
namespace Go.Proofs.Ytfgiihaefabblaa.A
open Go.RowKit Go.Proofs.YtfgiihaefabblaaW.PrintWords Go.Proofs.YtfgiihaefabblaaW.PrintLast Go.Proofs.YtfgiihaefabblaaW.PrintMore
attribute [local go_sem] max2_int min2_int max_two min_two max_three min_three max_four min_four
set_option linter.unusedVariables false
set_option maxHeartbeats 4000000 in
set_option maxRecDepth 100000 in
theorem apostilleref6_Block.calls (hS : List Int) (hh : hS.length = 8) (A0 : Option Addr) (c0 : Nat) (l0 : List Int) (w : World) (hr0 : Kd.C (Kd.int .u8) w A0 l0.length l0) (hc0 : l0.length ≤ c0) (hby : ∀ i, 0 ≤ rd l0 i ∧ rd l0 i < 256) : Calls Try.prog 11 #[.agg (ar hS), .slice A0 l0.length c0] w fun e w' => e = .returned (.agg (ar (blockF hS l0))) ∧ Below w.heap.size w w' := by
  have HR0 := Aside0.mk hr0
  have HC0 := Aside0.mk hc0
  have HL := Aside0.mk hh
  have HY0 := Aside0.mk hby
  have HB := Aside0.mk (Below.refl w.heap.size w)
  clear hr0 hc0 hh hby
  by_cases h64 : l0.length = 64
  · have H64 := Aside0.mk h64
    have HF := Aside0.mk (show blockF hS l0 = fi hS (rs hS (sp l0 64) 64) 8 by unfold blockF; rw [if_pos h64])
    rw [h64]
    clear h64
    go_enter Try.func11, Try.ntmps11
    go_wp2_with (first
      | ((with_reducible refine gate_dst (N := 2) rfl ?_); refine box_event rfl (N := 2) rfl (cs := ar (hS)) (t := 28) ?hr ?_; (case hr => first | (go_simp; done) | (go_simp; rfl)); intro g2 eg_ w2_ hc_ hb_; skip; have G2 := Aside0.mk (show w.heap.size ≤ g2 by have := HB.out.size; omega); have n_ := Aside0.mk (below_step HB.out hb_); clear HB; have HB := n_; clear n_; have H2 : Aside0 (AR w2_ g2 28 8 (hS)) := ⟨⟨HL.out, hc_⟩⟩; clear hc_ hb_ eg_)
      | ((with_reducible refine gate_dst (N := 4) rfl ?_); refine box_event rfl (N := 4) rfl (cs := ar (List.replicate 8 0)) (t := 28) ?hr ?_; (case hr => first | (go_simp; done) | (go_simp; rfl)); intro g4 eg_ w4_ hc_ hb_; have O24 := Aside0.mk (show g2 ≠ g4 by have := H2.out.lt; omega); have G4 := Aside0.mk (show w.heap.size ≤ g4 by have := HB.out.size; omega); have n_ := Aside0.mk (H2.out.below hb_); clear H2; have H2 := n_; clear n_; have n_ := Aside0.mk (below_step HB.out hb_); clear HB; have HB := n_; clear n_; have H4 : Aside0 (AR w4_ g4 28 8 (List.replicate 8 0)) := ⟨⟨rfl, hc_⟩⟩; clear hc_ hb_ eg_)
      | ((with_reducible refine gate_dst (N := 5) rfl ?_); refine box_event rfl (N := 5) rfl (cs := ar (List.replicate 64 0)) (t := 37) ?hr ?_; (case hr => first | (go_simp; done) | (go_simp; rfl)); intro g5 eg_ w5_ hc_ hb_; have O25 := Aside0.mk (show g2 ≠ g5 by have := H2.out.lt; omega); have O45 := Aside0.mk (show g4 ≠ g5 by have := H4.out.lt; omega); have G5 := Aside0.mk (show w.heap.size ≤ g5 by have := HB.out.size; omega); have n_ := Aside0.mk (H2.out.below hb_); clear H2; have H2 := n_; clear n_; have n_ := Aside0.mk (H4.out.below hb_); clear H4; have H4 := n_; clear n_; have n_ := Aside0.mk (below_step HB.out hb_); clear HB; have HB := n_; clear n_; have H5 : Aside0 (AR w5_ g5 37 64 (List.replicate 64 0)) := ⟨⟨rfl, hc_⟩⟩; clear hc_ hb_ eg_))
    go_loopg [6] 16 (fun kq v6 w' => ∃ (x : Int) (t : Nat), v6 = .int .i64 x ∧ Aside0 (x = t ∧ t + kq = 16) ∧ Aside0 (AR w' g2 28 8 hS) ∧ Aside0 (AR w' g4 28 8 (List.replicate 8 0)) ∧ Aside0 (AR w' g5 37 64 (sp l0 t)) ∧ Aside0 (Below w.heap.size w w'))
    case atStart => exact ⟨0, 0, rfl, ⟨rfl, rfl⟩, H2, H4, H5, HB⟩
    case round =>
      clear H2 H4 H5 HB
      obtain ⟨x, t, rfl, HX, H2, H4, H5, HB⟩ := hrel
      obtain ⟨hx, ht⟩ := HX.out
      cases gk with
      | succ k1 =>
        have c1 : decide (x < 16) = true := decide_eq_true (by omega)
        have p0 : (0 ≤ x) = True := eq_true (by omega)
        have p1 : (x < 64) = True := eq_true (by omega)
        have h64 := H64.out
        obtain ⟨L0, hL0⟩ : ∃ L : Int, L = 4 * x := ⟨_, rfl⟩
        obtain ⟨L1, hL1⟩ : ∃ L : Int, L = L0 + 1 := ⟨_, rfl⟩
        obtain ⟨L2, hL2⟩ : ∃ L : Int, L = L0 + 2 := ⟨_, rfl⟩
        obtain ⟨L3, hL3⟩ : ∃ L : Int, L = L0 + 3 := ⟨_, rfl⟩
        have w0 : IntKind.i64.wrap (4 * x) = L0 := by rw [hL0]; exact i64_of _ (by omega) (by omega)
        have w1 : IntKind.i64.wrap (L0 + 1) = L1 := by rw [hL1]; exact i64_of _ (by omega) (by omega)
        have w2 : IntKind.i64.wrap (L0 + 2) = L2 := by rw [hL2]; exact i64_of _ (by omega) (by omega)
        have w3 : IntKind.i64.wrap (L0 + 3) = L3 := by rw [hL3]; exact i64_of _ (by omega) (by omega)
        have q0 : (0 ≤ L0) = True := eq_true (by omega)
        have q1 : (0 ≤ L1) = True := eq_true (by omega)
        have q2 : (0 ≤ L2) = True := eq_true (by omega)
        have q3 : (0 ≤ L3) = True := eq_true (by omega)
        have r0 : (L0 < 64) = True := eq_true (by omega)
        have r1 : (L1 < 64) = True := eq_true (by omega)
        have r2 : (L2 < 64) = True := eq_true (by omega)
        have r3 : (L3 < 64) = True := eq_true (by omega)
        obtain ⟨ad, ea, b0⟩ := Kd.at_int HR0.out L0 (by omega) (by omega)
        obtain ⟨ad1, ea1, b1⟩ := Kd.at_int HR0.out L1 (by omega) (by omega)
        obtain ⟨ad2, ea2, b2⟩ := Kd.at_int HR0.out L2 (by omega) (by omega)
        obtain ⟨ad3, ea3, b3⟩ := Kd.at_int HR0.out L3 (by omega) (by omega)
        obtain rfl : ad1 = ad := Option.some.inj (ea1.symm.trans ea)
        obtain rfl : ad2 = ad1 := Option.some.inj (ea2.symm.trans ea)
        obtain rfl : ad3 = ad2 := Option.some.inj (ea3.symm.trans ea)
        clear ea1 ea2 ea3
        have z0 := World.block_lt_of_cell? w _ b0
        have z1 := World.block_lt_of_cell? w _ b1
        have z2 := World.block_lt_of_cell? w _ b2
        have z3 := World.block_lt_of_cell? w _ b3
        obtain ⟨u0, hu0⟩ : ∃ u, rd l0 L0 = u := ⟨_, rfl⟩
        obtain ⟨u1, hu1⟩ : ∃ u, rd l0 L1 = u := ⟨_, rfl⟩
        obtain ⟨u2, hu2⟩ : ∃ u, rd l0 L2 = u := ⟨_, rfl⟩
        obtain ⟨u3, hu3⟩ : ∃ u, rd l0 L3 = u := ⟨_, rfl⟩
        rw [hu0] at b0
        rw [hu1] at b1
        rw [hu2] at b2
        rw [hu3] at b3
        have KEEP := Aside0.mk (show ∀ (m : Nat) (v : Value), (((wr.drewN m).setCell ⟨g5, x.toNat, none⟩ v).cell? (ad3.add L0.toNat) = some (.int .u8 u0) ∧ ((wr.drewN m).setCell ⟨g5, x.toNat, none⟩ v).cell? (ad3.add L1.toNat) = some (.int .u8 u1)) ∧ (((wr.drewN m).setCell ⟨g5, x.toNat, none⟩ v).cell? (ad3.add L2.toNat) = some (.int .u8 u2) ∧ ((wr.drewN m).setCell ⟨g5, x.toNat, none⟩ v).cell? (ad3.add L3.toNat) = some (.int .u8 u3)) from fun m v =>
          have hb := below_set (v := v) (j := x.toNat) (pw_below_drewN HB.out m) G5.out
          ⟨⟨(hb.cell z0).trans b0, (hb.cell z1).trans b1⟩, ⟨(hb.cell z2).trans b2, (hb.cell z3).trans b3⟩⟩)
        replace b0 := (HB.out.cell z0).trans b0
        replace b1 := (HB.out.cell z1).trans b1
        replace b2 := (HB.out.cell z2).trans b2
        replace b3 := (HB.out.cell z3).trans b3
        have hx5 := H5.out.cell x.toNat (by omega)
        have hf5 := H5.out.froz x.toNat
        have HV := Aside0.mk (And.intro (And.intro hu0 hu1) (And.intro hu2 hu3))
        have HX := Aside0.mk (And.intro hx (And.intro ht (And.intro hL0 (And.intro hL1 (And.intro hL2 hL3)))))
        cases ea
        clear hx ht h64 hL0 hL1 hL2 hL3 hu0 hu1 hu2 hu3 z0 z1 z2 z3
        go_wp2_with fail
        go_region_held3 (fun w' => (w'.cell? (ad3.add L0.toNat) = some (.int .u8 u0) ∧ w'.cell? (ad3.add L1.toNat) = some (.int .u8 u1)) ∧ (w'.cell? (ad3.add L2.toNat) = some (.int .u8 u2) ∧ w'.cell? (ad3.add L3.toNat) = some (.int .u8 u3))) (first | (with_reducible exact KEEP.out _ _) | exact And.intro (And.intro b0 b1) (And.intro b2 b3) | exact KEEP.out 0 _) (fail)
        go_wp2_with fail
        go_roundg k1
        case measure => omega
        case rel =>
          obtain ⟨hx, ht, hL0, hL1, hL2, hL3⟩ := HX.out
          obtain ⟨⟨hu0, hu1⟩, hu2, hu3⟩ := HV.out
          have ex : x.toNat = t := by omega
          refine ⟨_, t + 1, rfl, ⟨?_, by omega⟩, ⟨(H2.out.away (by show g2 ≠ g5; exact O25.out)).drew⟩, ⟨(H4.out.away (by show g4 ≠ g5; exact O45.out)).drew⟩, ⟨?_⟩, ⟨below_drew1 (below_set HB.out G5.out)⟩⟩
          · show wrap64 (x + 1) = _
            rw [← i64_w, i64_of _ (by omega) (by omega)]; omega
          · have := (H5.out.set x.toNat (w4 u0 u1 u2 u3)).drew
            rw [sp, if_pos (show t < 16 by omega), ← w4_pw l0 HY0.out t L0 L1 L2 L3 (by omega) hL1 hL2 hL3, hu0, hu1, hu2, hu3]
            rw [ex] at this ⊢
            exact this
      | zero =>
        have c1 : decide (x < 16) = false := decide_eq_false (by omega)
        have e16 : t = 16 := by omega
        clear hx ht
        subst e16
        go_wp2_with fail
        clear c1
        go_loopg [7] 48 (fun kq v7 w' => ∃ (x : Int) (t : Nat), v7 = .int .i64 x ∧ Aside0 (x = t ∧ t + kq = 64 ∧ 16 ≤ t) ∧ Aside0 (AR w' g2 28 8 hS) ∧ Aside0 (AR w' g4 28 8 (List.replicate 8 0)) ∧ Aside0 (AR w' g5 37 64 (sp l0 t)) ∧ Aside0 (Below w.heap.size w w'))
        case atStart => exact ⟨16, 16, rfl, ⟨rfl, rfl, by omega⟩, H2, H4, H5, HB⟩
        case round =>
          clear H2 H4 H5 HB HX
          obtain ⟨x, t, rfl, HX, H2, H4, H5, HB⟩ := hrel
          obtain ⟨hx, ht, h16⟩ := HX.out
          cases gk with
          | succ k1 =>
            have c1 : decide (x < 64) = true := decide_eq_true (by omega)
            have p0 : (0 ≤ x) = True := eq_true (by omega)
            have p1 : (x < 64) = True := eq_true (by omega)
            obtain ⟨i15, e15⟩ : ∃ L : Int, L = x - 15 := ⟨_, rfl⟩
            obtain ⟨i2, e2⟩ : ∃ L : Int, L = x - 2 := ⟨_, rfl⟩
            obtain ⟨i16, e16⟩ : ∃ L : Int, L = x - 16 := ⟨_, rfl⟩
            obtain ⟨i7, e7⟩ : ∃ L : Int, L = x - 7 := ⟨_, rfl⟩
            have w15 : IntKind.i64.wrap (x - 15) = i15 := by rw [e15]; exact i64_of _ (by omega) (by omega)
            have w2 : IntKind.i64.wrap (x - 2) = i2 := by rw [e2]; exact i64_of _ (by omega) (by omega)
            have w16 : IntKind.i64.wrap (x - 16) = i16 := by rw [e16]; exact i64_of _ (by omega) (by omega)
            have w7 : IntKind.i64.wrap (x - 7) = i7 := by rw [e7]; exact i64_of _ (by omega) (by omega)
            have q15 : (0 ≤ i15) = True := eq_true (by omega)
            have r15 : (i15 < 64) = True := eq_true (by omega)
            have q2 : (0 ≤ i2) = True := eq_true (by omega)
            have r2 : (i2 < 64) = True := eq_true (by omega)
            have q16 : (0 ≤ i16) = True := eq_true (by omega)
            have r16 : (i16 < 64) = True := eq_true (by omega)
            have q7 : (0 ≤ i7) = True := eq_true (by omega)
            have r7 : (i7 < 64) = True := eq_true (by omega)
            have v15 := H5.out.cell i15.toNat (by omega)
            have v2 := H5.out.cell i2.toNat (by omega)
            have v16 := H5.out.cell i16.toNat (by omega)
            have v7 := H5.out.cell i7.toNat (by omega)
            have hf2 := H5.out.froz x.toNat
            have hx2 := H5.out.cell x.toNat (by omega)
            obtain ⟨X, hX⟩ : ∃ X, (sp l0 t).getD i15.toNat 0 = X := ⟨_, rfl⟩
            obtain ⟨Y, hY⟩ : ∃ X, (sp l0 t).getD i2.toNat 0 = X := ⟨_, rfl⟩
            obtain ⟨Z, hZ⟩ : ∃ X, (sp l0 t).getD i16.toNat 0 = X := ⟨_, rfl⟩
            obtain ⟨V, hV⟩ : ∃ X, (sp l0 t).getD i7.toNat 0 = X := ⟨_, rfl⟩
            rw [hX] at v15
            rw [hY] at v2
            rw [hZ] at v16
            rw [hV] at v7
            have hh : (x.toNat = t ∧ i15.toNat = t - 15) ∧ (i2.toNat = t - 2 ∧ i16.toNat = t - 16 ∧ i7.toNat = t - 7) := by omega
            have KEEP := Aside0.mk (show ∀ (m : Nat) (v : Value), ((wr.drewN m).setCell ⟨g5, x.toNat, none⟩ v).cell? ⟨g5, i16.toNat, none⟩ = some (.int .u32 Z) ∧ ((wr.drewN m).setCell ⟨g5, x.toNat, none⟩ v).cell? ⟨g5, i7.toNat, none⟩ = some (.int .u32 V) from fun m v => ⟨(World.cell?_setCell_other (wr.drewN m) ⟨g5, x.toNat, none⟩ ⟨g5, i16.toNat, none⟩ v (by intro q_; injection q_; omega)).trans v16, (World.cell?_setCell_other (wr.drewN m) ⟨g5, x.toNat, none⟩ ⟨g5, i7.toNat, none⟩ v (by intro q_; injection q_; omega)).trans v7⟩)
            have HV := Aside0.mk (And.intro (And.intro hX hY) (And.intro hZ hV))
            have HX := Aside0.mk (And.intro hx (And.intro ht (And.intro h16 hh)))
            clear hx ht h16 e15 e2 e16 e7 hX hY hZ hV hh
            go_wp2_with fail
            go_quiet (fail)
            go_wp2_with fail
            go_region_held3 (fun w' => w'.cell? ⟨g5, i16.toNat, none⟩ = some (.int .u32 Z) ∧ w'.cell? ⟨g5, i7.toNat, none⟩ = some (.int .u32 V)) (first | (with_reducible exact KEEP.out _ _) | exact And.intro v16 v7 | exact KEEP.out 0 _) (first | ((with_reducible refine (apostilleref6_turned.calls X 7 _ _ (un7 X)).mono ?_); rintro e w' ⟨rfl, ⟨nd, rfl⟩⟩) | ((with_reducible refine (apostilleref6_turned.calls X 18 _ _ (un18 X)).mono ?_); rintro e w' ⟨rfl, ⟨nd, rfl⟩⟩) | ((with_reducible refine (apostilleref6_turned.calls Y 17 _ _ (un17 Y)).mono ?_); rintro e w' ⟨rfl, ⟨nd, rfl⟩⟩) | ((with_reducible refine (apostilleref6_turned.calls Y 19 _ _ (un19 Y)).mono ?_); rintro e w' ⟨rfl, ⟨nd, rfl⟩⟩))
            go_wp2_with fail
            go_roundg k1
            case measure => omega
            case rel =>
              obtain ⟨hx, ht, h16, ⟨ex, f15⟩, f2, f16, f7⟩ := HX.out
              obtain ⟨⟨hX, hY⟩, hZ, hV⟩ := HV.out
              refine ⟨_, t + 1, rfl, ⟨?_, by omega, by omega⟩, ⟨?_⟩, ⟨?_⟩, ⟨?_⟩, ⟨?_⟩⟩
              · show wrap64 (x + 1) = _
                rw [← i64_w, i64_of _ (by omega) (by omega)]; omega
              · exact (H2.out.drewN _).away (by show g2 ≠ g5; exact O25.out)
              · exact (H4.out.drewN _).away (by show g4 ≠ g5; exact O45.out)
              · have := (H5.out.drewN (nq + 1 + nd + nd + nd + nd)).set x.toNat (nx (sp l0 t) t)
                rw [sp, if_neg (show ¬ t < 16 by omega)]
                rw [ex] at this ⊢
                unfold nx gw at this ⊢
                rw [f15] at hX
                rw [f2] at hY
                rw [f16] at hZ
                rw [f7] at hV
                rw [hX, hY, hZ, hV] at this ⊢
                exact this
              · exact below_set (pw_below_drewN HB.out _) G5.out
          | zero =>
            have c1 : decide (x < 64) = false := decide_eq_false (by omega)
            have e64 : t = 64 := by omega
            clear hx ht h16
            subst e64
            go_wp2_with (first
              | ((with_reducible refine gate_callee (f := 16) rfl ?_); refine goesL_ (some 102) rfl rfl Try.func16 (by kernel_rfl) rfl #[] rfl (by (try simp only [List.map_toArray, List.map_cons, List.map_nil]); first | done | rfl) ?_; (with_reducible refine (apostilleref6_words.calls _).mono ?_); rintro e w102c_ ⟨rfl, hb_⟩; refine ⟨_, rfl, ?_⟩; have n_ := Aside0.mk (H2.out.below hb_); clear H2; have H2 := n_; clear n_; have n_ := Aside0.mk (H4.out.below hb_); clear H4; have H4 := n_; clear n_; have n_ := Aside0.mk (H5.out.below hb_); clear H5; have H5 := n_; clear n_; have n_ := Aside0.mk (below_step HB.out hb_); clear HB; have HB := n_; clear n_; clear hb_)
              | ((with_reducible refine gate_dst (N := 10) rfl ?_); refine box_event rfl (N := 10) rfl (cs := ar (List.replicate 64 0)) (t := 37) ?hr ?_; (case hr => first | (go_simp; done) | (go_simp; rfl)); intro g10 eg_ w10_ hc_ hb_; have O210 := Aside0.mk (show g2 ≠ g10 by have := H2.out.lt; omega); have O410 := Aside0.mk (show g4 ≠ g10 by have := H4.out.lt; omega); have O510 := Aside0.mk (show g5 ≠ g10 by have := H5.out.lt; omega); have G10 := Aside0.mk (show w.heap.size ≤ g10 by have := HB.out.size; omega); have n_ := Aside0.mk (H2.out.below hb_); clear H2; have H2 := n_; clear n_; have n_ := Aside0.mk (H4.out.below hb_); clear H4; have H4 := n_; clear n_; have n_ := Aside0.mk (H5.out.below hb_); clear H5; have H5 := n_; clear n_; have n_ := Aside0.mk (below_step HB.out hb_); clear HB; have HB := n_; clear n_; have H10 : Aside0 (AR w10_ g10 37 64 (List.replicate 64 0)) := ⟨⟨rfl, hc_⟩⟩; clear hc_ hb_ eg_)
              | ((with_reducible refine gate_store (t := 37) (p := 10) rfl ?_); refine ar_store_step rfl rfl 37 _ _ rfl g10 37 64 _ (ks) rfl rfl H10.out rfl (by kernel_rfl) ?_; intro w10p_ hw_; have n_ : Aside0 (AR w10p_ g2 28 8 (hS)) := ⟨by rw [hw_]; exact H2.out.apart O210.out.symm⟩; clear H2; have H2 := n_; clear n_; have n_ : Aside0 (AR w10p_ g4 28 8 (List.replicate 8 0)) := ⟨by rw [hw_]; exact H4.out.apart O410.out.symm⟩; clear H4; have H4 := n_; clear n_; have n_ : Aside0 (AR w10p_ g5 37 64 (sp l0 64)) := ⟨by rw [hw_]; exact H5.out.apart O510.out.symm⟩; clear H5; have H5 := n_; clear n_; have n_ : Aside0 (AR w10p_ g10 37 64 (ks)) := ⟨by rw [hw_]; exact H10.out.put (ks) rfl⟩; clear H10; have H10 := n_; clear n_; have n_ : Aside0 (Below w.heap.size w w10p_) := ⟨by rw [hw_]; exact below_put HB.out G10.out⟩; clear HB; have HB := n_; clear n_; clear hw_)
              | ((with_reducible refine gate_dst (N := 103) rfl ?_); refine ar_load_step 103 rfl rfl 28 _ rfl g2 28 8 8 _ rfl H2.out 27 Try.underlying28 (by kernel_rfl) ?_)
              | ((with_reducible refine gate_dst (N := 11) rfl ?_); refine box_event rfl (N := 11) rfl (cs := ar (List.replicate 8 0)) (t := 28) ?hr ?_; (case hr => first | (go_simp; done) | (go_simp; rfl)); intro g11 eg_ w11_ hc_ hb_; have O211 := Aside0.mk (show g2 ≠ g11 by have := H2.out.lt; omega); have O411 := Aside0.mk (show g4 ≠ g11 by have := H4.out.lt; omega); have O511 := Aside0.mk (show g5 ≠ g11 by have := H5.out.lt; omega); have O1011 := Aside0.mk (show g10 ≠ g11 by have := H10.out.lt; omega); have G11 := Aside0.mk (show w.heap.size ≤ g11 by have := HB.out.size; omega); have n_ := Aside0.mk (H2.out.below hb_); clear H2; have H2 := n_; clear n_; have n_ := Aside0.mk (H4.out.below hb_); clear H4; have H4 := n_; clear n_; have n_ := Aside0.mk (H5.out.below hb_); clear H5; have H5 := n_; clear n_; have n_ := Aside0.mk (H10.out.below hb_); clear H10; have H10 := n_; clear n_; have n_ := Aside0.mk (below_step HB.out hb_); clear HB; have HB := n_; clear n_; have H11 : Aside0 (AR w11_ g11 28 8 (List.replicate 8 0)) := ⟨⟨rfl, hc_⟩⟩; clear hc_ hb_ eg_)
              | ((with_reducible refine gate_store (t := 28) (p := 11) rfl ?_); refine ar_store_step rfl rfl 28 _ _ rfl g11 28 8 _ (hS) rfl rfl H11.out HL.out (by kernel_rfl) ?_; intro w11p_ hw_; have n_ : Aside0 (AR w11p_ g2 28 8 (hS)) := ⟨by rw [hw_]; exact H2.out.apart O211.out.symm⟩; clear H2; have H2 := n_; clear n_; have n_ : Aside0 (AR w11p_ g4 28 8 (List.replicate 8 0)) := ⟨by rw [hw_]; exact H4.out.apart O411.out.symm⟩; clear H4; have H4 := n_; clear n_; have n_ : Aside0 (AR w11p_ g5 37 64 (sp l0 64)) := ⟨by rw [hw_]; exact H5.out.apart O511.out.symm⟩; clear H5; have H5 := n_; clear n_; have n_ : Aside0 (AR w11p_ g10 37 64 (ks)) := ⟨by rw [hw_]; exact H10.out.apart O1011.out.symm⟩; clear H10; have H10 := n_; clear n_; have n_ : Aside0 (AR w11p_ g11 28 8 (hS)) := ⟨by rw [hw_]; exact H11.out.put (hS) HL.out⟩; clear H11; have H11 := n_; clear n_; have n_ : Aside0 (Below w.heap.size w w11p_) := ⟨by rw [hw_]; exact below_put HB.out G11.out⟩; clear HB; have HB := n_; clear n_; clear hw_))
            clear c1
            go_loopg [12] 64 (fun kq v12 w' => ∃ (x : Int) (t : Nat), v12 = .int .i64 x ∧ Aside0 (x = t ∧ t + kq = 64) ∧ Aside0 (AR w' g2 28 8 hS) ∧ Aside0 (AR w' g4 28 8 (List.replicate 8 0)) ∧ Aside0 (AR w' g5 37 64 (sp l0 64)) ∧ Aside0 (AR w' g10 37 64 ks) ∧ Aside0 (AR w' g11 28 8 (rs hS (sp l0 64) t)) ∧ Aside0 (Below w.heap.size w w'))
            case atStart => exact ⟨0, 0, rfl, ⟨rfl, rfl⟩, H2, H4, H5, H10, H11, HB⟩
            case round =>
              clear H2 H4 H5 H10 H11 HB HX
              obtain ⟨x, t, rfl, HX, H2, H4, H5, H10, H11, HB⟩ := hrel
              obtain ⟨hx, ht⟩ := HX.out
              cases gk with
              | zero =>
                have c1 : decide (x < 64) = false := decide_eq_false (by omega)
                have e64 : t = 64 := by omega
                clear hx ht
                subst e64
                go_wp2_with fail
                clear c1
                go_loopg [17] 8 (fun kq v17 w' => ∃ (y : Int) (i : Nat), v17 = .int .i64 y ∧ Aside0 (y = i ∧ i + kq = 8) ∧ Aside0 (AR w' g2 28 8 (fi hS (rs hS (sp l0 64) 64) i)) ∧ Aside0 (AR w' g4 28 8 (List.replicate 8 0)) ∧ Aside0 (AR w' g11 28 8 (rs hS (sp l0 64) 64)) ∧ Aside0 (Below w.heap.size w w'))
                case atStart => exact ⟨0, 0, rfl, ⟨rfl, rfl⟩, H2, H4, H11, HB⟩
                case round =>
                  clear H2 H4 H5 H10 H11 HB
                  obtain ⟨y, i, rfl, HY, H2, H4, H11, HB⟩ := hrel
                  obtain ⟨hy, hi⟩ := HY.out
                  cases gk with
                  | zero =>
                    have c1 : decide (y < 8) = false := decide_eq_false (by omega)
                    have e8 : i = 8 := by omega
                    clear hy hi
                    subst e8
                    go_wp2_with (first
                      | ((with_reducible refine gate_dst (N := 197) rfl ?_); refine ar_load_step 197 rfl rfl 28 _ rfl g2 28 8 8 _ rfl H2.out 27 Try.underlying28 (by kernel_rfl) ?_)
                      | ((with_reducible refine gate_store (t := 28) (p := 4) rfl ?_); refine ar_store_step rfl rfl 28 _ _ rfl g4 28 8 _ (fi hS (rs hS (sp l0 64) 64) 8) rfl rfl H4.out (fi_len _ _ HL.out _) (by kernel_rfl) ?_; intro w4p_ hw_; have n_ : Aside0 (AR w4p_ g2 28 8 (fi hS (rs hS (sp l0 64) 64) 8)) := ⟨by rw [hw_]; exact H2.out.apart O24.out.symm⟩; clear H2; have H2 := n_; clear n_; have n_ : Aside0 (AR w4p_ g4 28 8 (fi hS (rs hS (sp l0 64) 64) 8)) := ⟨by rw [hw_]; exact H4.out.put (fi hS (rs hS (sp l0 64) 64) 8) (fi_len _ _ HL.out _)⟩; clear H4; have H4 := n_; clear n_; have n_ : Aside0 (AR w4p_ g11 28 8 (rs hS (sp l0 64) 64)) := ⟨by rw [hw_]; exact H11.out.apart O411.out⟩; clear H11; have H11 := n_; clear n_; have n_ : Aside0 (Below w.heap.size w w4p_) := ⟨by rw [hw_]; exact below_put HB.out G4.out⟩; clear HB; have HB := n_; clear n_; clear hw_))
                    exact bodyPost_ret (v := .agg (ar (blockF hS l0))) (ar_result rfl rfl (by rw [HF.out]; exact H4.out) 27 Try.underlying28 (by kernel_rfl)) rfl ⟨rfl, HB.out⟩
                  | succ k2 =>
                    have c1 : decide (y < 8) = true := decide_eq_true (by omega)
                    have p0 : (0 ≤ y) = True := eq_true (by omega)
                    have p1 : (y < 8) = True := eq_true (by omega)
                    have a2 := H2.out.cell y.toNat (by omega)
                    have a7 := H11.out.cell y.toNat (by omega)
                    have f2 := H2.out.froz y.toNat
                    obtain ⟨X, hX⟩ : ∃ X, (fi hS (rs hS (sp l0 64) 64) i).getD y.toNat 0 = X := ⟨_, rfl⟩
                    obtain ⟨Y, hY⟩ : ∃ X, (rs hS (sp l0 64) 64).getD y.toNat 0 = X := ⟨_, rfl⟩
                    rw [hX] at a2
                    rw [hY] at a7
                    have HV := Aside0.mk (And.intro hX hY)
                    have HY := Aside0.mk (And.intro hy hi)
                    have KEEP := Aside0.mk (show ∀ (m : Nat) (v : Value), ((wr.drewN m).setCell ⟨g2, y.toNat, none⟩ v).cell? ⟨g11, y.toNat, none⟩ = some (.int .u32 Y) from fun m v => (World.cell?_setCell_other (wr.drewN m) ⟨g2, y.toNat, none⟩ ⟨g11, y.toNat, none⟩ v (by intro q_; injection q_; exact O211.out (by assumption))).trans a7)
                    clear hX hY hy hi
                    go_wp2_with fail
                    go_still_tail 9, (by kernel_rfl)
                    change wpList _ _ _ _ _ wr.drew
                    go_wp2_with fail
                    go_roundg k2
                    case measure => omega
                    case rel =>
                      obtain ⟨hy, hi⟩ := HY.out
                      obtain ⟨hX, hY⟩ := HV.out
                      have ey : y.toNat = i := by omega
                      refine ⟨_, i + 1, rfl, ⟨?_, by omega⟩, ⟨?_⟩, ⟨?_⟩, ⟨?_⟩, ⟨?_⟩⟩
                      · show wrap64 (y + 1) = _
                        rw [← i64_w, i64_of _ (by omega) (by omega)]; omega
                      · have := (H2.out.set y.toNat (ad X Y)).drew
                        rw [ey] at hX hY this ⊢
                        rw [fi]
                        unfold gw
                        rw [hX, hY]
                        exact this
                      · exact (H4.out.away (by show g4 ≠ g2; exact O24.out.symm)).drew
                      · exact (H11.out.away (by show g11 ≠ g2; exact O211.out.symm)).drew
                      · exact below_drew1 (below_set HB.out G2.out)
              | succ k1 =>
                have c1 : decide (x < 64) = true := decide_eq_true (by omega)
                have p0 : (0 ≤ x) = True := eq_true (by omega)
                have p1 : (x < 64) = True := eq_true (by omega)
                have a0 := H11.out.cell 0 (by omega)
                have a1 := H11.out.cell 1 (by omega)
                have a2 := H11.out.cell 2 (by omega)
                have a3 := H11.out.cell 3 (by omega)
                have a4 := H11.out.cell 4 (by omega)
                have a5 := H11.out.cell 5 (by omega)
                have a6 := H11.out.cell 6 (by omega)
                have a7 := H11.out.cell 7 (by omega)
                have ak := H10.out.cell x.toNat (by omega)
                have aw := H5.out.cell x.toNat (by omega)
                obtain ⟨v0, e0⟩ : ∃ X, (rs hS (sp l0 64) t).getD 0 0 = X := ⟨_, rfl⟩
                obtain ⟨v1, e1⟩ : ∃ X, (rs hS (sp l0 64) t).getD 1 0 = X := ⟨_, rfl⟩
                obtain ⟨v2, e2⟩ : ∃ X, (rs hS (sp l0 64) t).getD 2 0 = X := ⟨_, rfl⟩
                obtain ⟨v3, e3⟩ : ∃ X, (rs hS (sp l0 64) t).getD 3 0 = X := ⟨_, rfl⟩
                obtain ⟨v4, e4⟩ : ∃ X, (rs hS (sp l0 64) t).getD 4 0 = X := ⟨_, rfl⟩
                obtain ⟨v5, e5⟩ : ∃ X, (rs hS (sp l0 64) t).getD 5 0 = X := ⟨_, rfl⟩
                obtain ⟨v6, e6⟩ : ∃ X, (rs hS (sp l0 64) t).getD 6 0 = X := ⟨_, rfl⟩
                obtain ⟨v7, e7⟩ : ∃ X, (rs hS (sp l0 64) t).getD 7 0 = X := ⟨_, rfl⟩
                obtain ⟨kk, ek⟩ : ∃ X, ks.getD x.toNat 0 = X := ⟨_, rfl⟩
                obtain ⟨ww, ew⟩ : ∃ X, (sp l0 64).getD x.toNat 0 = X := ⟨_, rfl⟩
                rw [e0] at a0
                rw [e1] at a1
                rw [e2] at a2
                rw [e3] at a3
                rw [e4] at a4
                rw [e5] at a5
                rw [e6] at a6
                rw [e7] at a7
                rw [ek] at ak
                rw [ew] at aw
                have HV := Aside0.mk (And.intro (And.intro e0 (And.intro e1 (And.intro e2 e3))) (And.intro (And.intro e4 (And.intro e5 (And.intro e6 e7))) (And.intro ek ew)))
                have HX := Aside0.mk (And.intro hx ht)
                clear e0 e1 e2 e3 e4 e5 e6 e7 ek ew hx ht
                go_wp2_with fail
                go_quiet (fail)
                go_wp2_with fail
                go_quiet (first | (go_at_call 15; (with_reducible refine (apostilleref6_turned.calls v4 6 _ _ (un6 v4)).mono ?_); rintro e w' ⟨rfl, ⟨nd, rfl⟩⟩; (first | exact ⟨rfl, _, World.drewN_drewN _ _ _⟩ | exact ⟨rfl, _, Eq.trans (World.drewN_drewN _ _ _) (congrArg (World.drewN _) (Nat.add_assoc _ _ _))⟩)) | (go_at_call 15; (with_reducible refine (apostilleref6_turned.calls v4 11 _ _ (un11 v4)).mono ?_); rintro e w' ⟨rfl, ⟨nd, rfl⟩⟩; (first | exact ⟨rfl, _, World.drewN_drewN _ _ _⟩ | exact ⟨rfl, _, Eq.trans (World.drewN_drewN _ _ _) (congrArg (World.drewN _) (Nat.add_assoc _ _ _))⟩)) | (go_at_call 15; (with_reducible refine (apostilleref6_turned.calls v4 25 _ _ (un25 v4)).mono ?_); rintro e w' ⟨rfl, ⟨nd, rfl⟩⟩; (first | exact ⟨rfl, _, World.drewN_drewN _ _ _⟩ | exact ⟨rfl, _, Eq.trans (World.drewN_drewN _ _ _) (congrArg (World.drewN _) (Nat.add_assoc _ _ _))⟩)))
                go_wp2_with fail
                go_quiet (first | (go_at_call 15; (with_reducible refine (apostilleref6_turned.calls v0 2 _ _ (un2 v0)).mono ?_); rintro e w' ⟨rfl, ⟨nd, rfl⟩⟩; (first | exact ⟨rfl, _, World.drewN_drewN _ _ _⟩ | exact ⟨rfl, _, Eq.trans (World.drewN_drewN _ _ _) (congrArg (World.drewN _) (Nat.add_assoc _ _ _))⟩)) | (go_at_call 15; (with_reducible refine (apostilleref6_turned.calls v0 13 _ _ (un13 v0)).mono ?_); rintro e w' ⟨rfl, ⟨nd, rfl⟩⟩; (first | exact ⟨rfl, _, World.drewN_drewN _ _ _⟩ | exact ⟨rfl, _, Eq.trans (World.drewN_drewN _ _ _) (congrArg (World.drewN _) (Nat.add_assoc _ _ _))⟩)) | (go_at_call 15; (with_reducible refine (apostilleref6_turned.calls v0 22 _ _ (un22 v0)).mono ?_); rintro e w' ⟨rfl, ⟨nd, rfl⟩⟩; (first | exact ⟨rfl, _, World.drewN_drewN _ _ _⟩ | exact ⟨rfl, _, Eq.trans (World.drewN_drewN _ _ _) (congrArg (World.drewN _) (Nat.add_assoc _ _ _))⟩)))
                go_wp2_with (first
                  | ((with_reducible refine gate_store (t := 28) (p := 11) rfl ?_); refine ar_store_step rfl rfl 28 _ _ rfl g11 28 8 _ ([(v7 + sgE v4 + chF v4 v5 v6 + kk + ww + (sgA v0 + mjF v0 v1 v2)) % 4294967296, v0, v1, v2, (v3 + (v7 + sgE v4 + chF v4 v5 v6 + kk + ww)) % 4294967296, v4, v5, v6]) rfl rfl (H11.out.drewN _) rfl (by kernel_rfl) ?_; intro w11p_ hw_; have n_ : Aside0 (AR w11p_ g2 28 8 (hS)) := ⟨by rw [hw_]; exact (H2.out.drewN _).apart O211.out.symm⟩; clear H2; have H2 := n_; clear n_; have n_ : Aside0 (AR w11p_ g4 28 8 (List.replicate 8 0)) := ⟨by rw [hw_]; exact (H4.out.drewN _).apart O411.out.symm⟩; clear H4; have H4 := n_; clear n_; have n_ : Aside0 (AR w11p_ g5 37 64 (sp l0 64)) := ⟨by rw [hw_]; exact (H5.out.drewN _).apart O511.out.symm⟩; clear H5; have H5 := n_; clear n_; have n_ : Aside0 (AR w11p_ g10 37 64 (ks)) := ⟨by rw [hw_]; exact (H10.out.drewN _).apart O1011.out.symm⟩; clear H10; have H10 := n_; clear n_; have n_ : Aside0 (AR w11p_ g11 28 8 ([(v7 + sgE v4 + chF v4 v5 v6 + kk + ww + (sgA v0 + mjF v0 v1 v2)) % 4294967296, v0, v1, v2, (v3 + (v7 + sgE v4 + chF v4 v5 v6 + kk + ww)) % 4294967296, v4, v5, v6])) := ⟨by rw [hw_]; exact (H11.out.drewN _).put ([(v7 + sgE v4 + chF v4 v5 v6 + kk + ww + (sgA v0 + mjF v0 v1 v2)) % 4294967296, v0, v1, v2, (v3 + (v7 + sgE v4 + chF v4 v5 v6 + kk + ww)) % 4294967296, v4, v5, v6]) rfl⟩; clear H11; have H11 := n_; clear n_; have n_ : Aside0 (Below w.heap.size w w11p_) := ⟨by rw [hw_]; exact below_put (pw_below_drewN HB.out _) G11.out⟩; clear HB; have HB := n_; clear n_; clear hw_))
                go_roundg k1
                case measure => omega
                case rel =>
                  obtain ⟨hx, ht⟩ := HX.out
                  obtain ⟨⟨e0, e1, e2, e3⟩, ⟨e4, e5, e6, e7⟩, ek, ew⟩ := HV.out
                  have ex : x.toNat = t := by omega
                  refine ⟨_, t + 1, rfl, ⟨?_, by omega⟩, H2, H4, H5, H10, ⟨?_⟩, HB⟩
                  · show wrap64 (x + 1) = _
                    rw [← i64_w, i64_of _ (by omega) (by omega)]; omega
                  · rw [ex] at ek ew
                    rw [rs]
                    unfold rnd su gw
                    rw [e0, e1, e2, e3, e4, e5, e6, e7, ek, ew]
                    exact H11.out
  · have HF := Aside0.mk (show blockF hS l0 = hS by unfold blockF; rw [if_neg h64])
    have cn : ((l0.length : Int) = 64) = False := eq_false (by omega)
    have cm : (l0.length = 64) = False := eq_false h64
    go_enter Try.func11, Try.ntmps11
    go_wp2_with (first
      | ((with_reducible refine gate_dst (N := 2) rfl ?_); refine box_event rfl (N := 2) rfl (cs := ar (hS)) (t := 28) ?hr ?_; (case hr => first | (go_simp; done) | (go_simp; rfl)); intro g2 eg_ w2_ hc_ hb_; skip; have G2 := Aside0.mk (show w.heap.size ≤ g2 by have := HB.out.size; omega); have n_ := Aside0.mk (below_step HB.out hb_); clear HB; have HB := n_; clear n_; have H2 : Aside0 (AR w2_ g2 28 8 (hS)) := ⟨⟨HL.out, hc_⟩⟩; clear hc_ hb_ eg_)
      | ((with_reducible refine gate_dst (N := 4) rfl ?_); refine box_event rfl (N := 4) rfl (cs := ar (List.replicate 8 0)) (t := 28) ?hr ?_; (case hr => first | (go_simp; done) | (go_simp; rfl)); intro g4 eg_ w4_ hc_ hb_; have O24 := Aside0.mk (show g2 ≠ g4 by have := H2.out.lt; omega); have G4 := Aside0.mk (show w.heap.size ≤ g4 by have := HB.out.size; omega); have n_ := Aside0.mk (H2.out.below hb_); clear H2; have H2 := n_; clear n_; have n_ := Aside0.mk (below_step HB.out hb_); clear HB; have HB := n_; clear n_; have H4 : Aside0 (AR w4_ g4 28 8 (List.replicate 8 0)) := ⟨⟨rfl, hc_⟩⟩; clear hc_ hb_ eg_)
      | ((with_reducible refine gate_dst (N := 21) rfl ?_); refine ar_load_step 21 rfl rfl 28 _ rfl g2 28 8 8 _ rfl H2.out 27 Try.underlying28 (by kernel_rfl) ?_)
      | ((with_reducible refine gate_store (t := 28) (p := 4) rfl ?_); refine ar_store_step rfl rfl 28 _ _ rfl g4 28 8 _ (hS) rfl rfl H4.out HL.out (by kernel_rfl) ?_; intro w4p_ hw_; have n_ : Aside0 (AR w4p_ g2 28 8 (hS)) := ⟨by rw [hw_]; exact H2.out.apart O24.out.symm⟩; clear H2; have H2 := n_; clear n_; have n_ : Aside0 (AR w4p_ g4 28 8 (hS)) := ⟨by rw [hw_]; exact H4.out.put (hS) HL.out⟩; clear H4; have H4 := n_; clear n_; have n_ : Aside0 (Below w.heap.size w w4p_) := ⟨by rw [hw_]; exact below_put HB.out G4.out⟩; clear HB; have HB := n_; clear n_; clear hw_))
    exact bodyPost_ret (v := .agg (ar (blockF hS l0))) (ar_result rfl rfl (by rw [HF.out]; exact H4.out) 27 Try.underlying28 (by kernel_rfl)) rfl ⟨rfl, HB.out⟩
end Go.Proofs.Ytfgiihaefabblaa.A
