import Derived.Test.YtfgiihaefabblaaS1
namespace Go.Proofs.Ytfgiihaefabblaa.A
open Go.RowKit Go.Proofs.YtfgiihaefabblaaW.PrintWords Go.Proofs.YtfgiihaefabblaaW.PrintLast Go.Proofs.YtfgiihaefabblaaW.PrintMore
attribute [local go_sem] max2_int min2_int max_two min_two max_three min_three max_four min_four
set_option linter.unusedVariables false
set_option maxHeartbeats 2000000 in
set_option maxRecDepth 100000 in
theorem sha_spread.calls (A0 : Option Addr) (c0 : Nat) (l0 : List Int) (w : World) (hr0 : Kd.C (Kd.int .u8) w A0 l0.length l0) (hc0 : l0.length ≤ c0) (h64 : l0.length = 64) : Calls Try.prog 13 #[.slice A0 64 c0] w fun e w' => e = .returned (.agg (ar (sp l0 64))) ∧ Below w.heap.size w w' := by
  have HR0 := Aside0.mk hr0
  have HC0 := Aside0.mk hc0
  have H64 := Aside0.mk h64
  clear hr0 hc0 h64
  go_enter Try.func13, Try.ntmps13
  go_wp2
  obtain ⟨g1, hg1⟩ : ∃ g, g = w.heap.size := ⟨_, rfl⟩
  obtain ⟨g2, hg2⟩ : ∃ g, g = w.heap.size + 1 := ⟨_, rfl⟩
  have HG := Aside0.mk (show w.heap.size ≤ g1 ∧ g1 < g2 by omega)
  simp only [← hg2]
  simp only [← hg1]
  go_loopg [11] 64 (fun kq v11 w' => ∃ (x : Int) (t : Nat), v11 = .int .i64 x ∧ Aside0 (x = t ∧ t + kq = 64) ∧ Aside0 (AR w' g1 37 64 (List.replicate 64 0)) ∧ Aside0 (AR w' g2 37 64 (sp l0 t)) ∧ Aside0 (Below w.heap.size w w'))
  case atStart =>
    refine ⟨0, 0, rfl, ⟨rfl, rfl⟩, ⟨?_⟩, ⟨?_⟩, ⟨?_⟩⟩
    · subst hg1
      exact (AR.new w 37 (List.replicate 64 0) 64 rfl).alloc _
    · have e : g2 = (w.alloc (.cells (ar (List.replicate 64 0)) 37)).heap.size := by rw [hg2]; simp
      rw [e]
      exact AR.new (w.alloc (.cells (ar (List.replicate 64 0)) 37)) 37 (List.replicate 64 0) 64 rfl
    · exact below_alloc (below_alloc (Below.refl _ _) _) _
  case round =>
    clear hg1 hg2
    obtain ⟨x, t, rfl, HX, H1, H2, HB⟩ := hrel
    obtain ⟨hx, ht⟩ := HX.out
    have h64 := H64.out
    have hc0 := HC0.out
    cases gk with
    | zero =>
      have c1 : decide (x < 64) = false := decide_eq_false (by omega)
      have e64 : t = 64 := by omega
      clear hx ht h64 hc0
      subst e64
      go_wp2_with (first | ((with_reducible refine gate_dst (N := 78) rfl ?_); refine ar_load_step 78 rfl rfl 37 _ rfl g2 37 64 64 _ rfl H2.out 27 Try.underlying37 (by kernel_rfl) ?_) | ((with_reducible refine gate_store (t := 37) (p := 2) rfl ?_); refine ar_store_step rfl rfl 37 _ _ rfl g1 37 64 _ _ rfl rfl H1.out (sp_len _ _) (by kernel_rfl) ?_; intro w1 hw1; have HW1 := Aside0.mk hw1; clear hw1))
      have HR := H1.out.put (sp l0 64) (sp_len _ _)
      rw [← HW1.out] at HR
      have HB' := below_put (c := ar (sp l0 64)) HB.out HG.out.1
      rw [← HW1.out] at HB'
      exact bodyPost_ret (v := .agg (ar (sp l0 64))) (ar_result rfl rfl HR 27 Try.underlying37 (by kernel_rfl)) rfl ⟨rfl, HB'⟩
    | succ k1 =>
      have c1 : decide (x < 64) = true := decide_eq_true (by omega)
      have p0 : (0 ≤ x) = True := eq_true (by omega)
      have p1 : (x < 64) = True := eq_true (by omega)
      have hH2 := H2.out
      obtain ⟨hx2, hf2⟩ : wr.cell? ⟨g2, x.toNat, none⟩ = some (.int .u32 0) ∧ True := ⟨by rw [hH2.cell x.toNat (by omega), sp_zero l0 t x.toNat (by omega)], trivial⟩
      clear hf2
      by_cases h16 : t < 16
      · have c2 : decide (x < 16) = true := decide_eq_true (by omega)
        obtain ⟨L, hL⟩ : ∃ L : Int, L = 4 * x := ⟨_, rfl⟩
        obtain ⟨U, hU⟩ : ∃ L : Int, L = 4 * x + 4 := ⟨_, rfl⟩
        have hLw : IntKind.i64.wrap (4 * x) = L := by rw [hL]; exact i64_of _ (by omega) (by omega)
        have hUw : IntKind.i64.wrap (L + 4) = U := by rw [hL, hU]; exact i64_of _ (by omega) (by omega)
        have b1 : 0 ≤ L := by omega
        have b2 : L ≤ U := by omega
        have b3 : U ≤ (c0 : Int) := by omega
        have b4 : U.toNat - L.toNat = 4 := by omega
        have b5 : L.toNat = 4 * t := by omega
        have BB := Aside0.mk (And.intro b1 (And.intro b2 (And.intro b3 (And.intro b4 b5))))
        have HX := Aside0.mk (And.intro hx (And.intro ht (And.intro h16 (And.intro h64 hc0))))
        clear hx ht h16 h64 hc0 b1 b2 b3 b4 b5 hL hU hH2
        go_wp2_with (first | ((with_reducible refine gate_dst (N := 22) rfl ?_); refine slice_step 22 rfl rfl 22 _ _ _ rfl A0 64 c0 L U rfl rfl rfl BB.out.1 BB.out.2.1 BB.out.2.2.1 5 Try.underlying22 (by kernel_rfl) 4 _ BB.out.2.2.2.1 rfl ?_; intro A22 hA22; have HA22 := Aside0.mk hA22; clear hA22))
        go_loopg [24] 4 (fun kq v24 w' => ∃ (y : Int) (j : Nat), v24 = .int .i64 y ∧ Aside0 (y = j ∧ j + kq = 4) ∧ Aside0 (AR w' g1 37 64 (List.replicate 64 0)) ∧ Aside0 (AR w' g2 37 64 ((sp l0 t).set t (pw l0 t j))) ∧ Aside0 (Below w.heap.size w w'))
        case atStart => exact ⟨0, 0, rfl, ⟨rfl, rfl⟩, H1, ⟨by rw [pw, sp_set0 l0 t (by have := HX.out.2.1; omega)]; exact H2.out⟩, HB⟩
        case round =>
          clear hx2 H1 H2 HB hLw hUw
          obtain ⟨y, j, rfl, HY, H1, H2, HB⟩ := hrel
          obtain ⟨hy, hj⟩ := HY.out
          cases gk with
          | zero =>
            have d1 : decide (y < 4) = false := decide_eq_false (by omega)
            have e4 : j = 4 := by omega
            clear hy hj
            go_wp2_with fail
            go_roundg k1
            case measure => omega
            case rel =>
              obtain ⟨hx, ht, h16, h64, hc0⟩ := HX.out
              refine ⟨_, t + 1, rfl, ⟨?_, by omega⟩, H1, ⟨?_⟩, HB⟩
              · show wrap64 (x + 1) = _
                rw [← i64_w, i64_of _ (by omega) (by omega)]; omega
              · rw [sp, if_pos h16, ← e4]; exact H2.out
          | succ k2 =>
            have d1 : decide (y < 4) = true := decide_eq_true (by omega)
            have p2 : (0 ≤ y) = True := eq_true (by omega)
            have p3 : (y < 4) = True := eq_true (by omega)
            obtain ⟨hx, ht, h16, h64, hc0⟩ := HX.out
            obtain ⟨ad, e, hb⟩ := part_at HR0.out HC0.out t j A22 (by rw [HA22.out, BB.out.2.2.2.2]) (by omega) (by omega)
            replace hb := (HB.out.cell (World.block_lt_of_cell? w _ hb)).trans hb
            have hjy : j = y.toNat := by omega
            rw [hjy] at hb
            cases e
            have hx2 := H2.out.cell x.toNat (by omega)
            have hf2 := H2.out.froz x.toNat
            have ex : ((sp l0 t).set t (pw l0 t j)).getD x.toNat 0 = pw l0 t j := by
              have : x.toNat = t := by omega
              rw [this]
              exact set_get _ _ _ (by rw [sp_len]; omega)
            rw [ex] at hx2
            obtain ⟨q, hq⟩ : ∃ q, pw l0 t j = q := ⟨_, rfl⟩
            rw [hq] at hx2
            obtain ⟨u, hu⟩ : ∃ u, rd l0 ((4 * t + y.toNat : Nat) : Int) = u := ⟨_, rfl⟩
            rw [hu] at hb
            have HQ := Aside0.mk (And.intro hq (And.intro hu hjy))
            have HY := Aside0.mk (And.intro hy hj)
            clear hx ht h16 h64 hc0 hy hj ex hq hu hjy
            go_wp2_with fail
            go_roundg k2
            case measure => omega
            case rel =>
              obtain ⟨hx, ht, h16, h64, hc0⟩ := HX.out
              obtain ⟨hy, hj⟩ := HY.out
              obtain ⟨hq, hu, hjy⟩ := HQ.out
              have hxt : x.toNat = t := by omega
              refine ⟨_, j + 1, rfl, ⟨?_, by omega⟩, ⟨H1.out.away (by have := HG.out.2; show g1 ≠ g2; omega)⟩, ⟨?_⟩, ⟨below_set HB.out (by have := HG.out; omega)⟩⟩
              · show wrap64 (y + 1) = _
                rw [← i64_w, i64_of _ (by omega) (by omega)]; omega
              · have := H2.out.set x.toNat (bw q u)
                rw [hxt, List.set_set] at this
                rw [pw, hq, hjy, hu, hxt]
                exact this
      · have c2 : decide (x < 16) = false := decide_eq_false (by omega)
        obtain ⟨i15, e15⟩ : ∃ L : Int, L = x - 15 := ⟨_, rfl⟩
        obtain ⟨i2, e2⟩ : ∃ L : Int, L = x - 2 := ⟨_, rfl⟩
        obtain ⟨i16, e16⟩ : ∃ L : Int, L = x - 16 := ⟨_, rfl⟩
        obtain ⟨i7, e7⟩ : ∃ L : Int, L = x - 7 := ⟨_, rfl⟩
        have w15 : IntKind.i64.wrap (x - 15) = i15 := by rw [e15]; exact i64_of _ (by omega) (by omega)
        have w2 : IntKind.i64.wrap (x - 2) = i2 := by rw [e2]; exact i64_of _ (by omega) (by omega)
        have w16 : IntKind.i64.wrap (x - 16) = i16 := by rw [e16]; exact i64_of _ (by omega) (by omega)
        have w7 : IntKind.i64.wrap (x - 7) = i7 := by rw [e7]; exact i64_of _ (by omega) (by omega)
        have q15 : (0 ≤ i15) = True := eq_true (by omega)
        have r15 : (i15 < 64) = True := eq_true (by omega)
        have q2 : (0 ≤ i2) = True := eq_true (by omega)
        have r2 : (i2 < 64) = True := eq_true (by omega)
        have q16 : (0 ≤ i16) = True := eq_true (by omega)
        have r16 : (i16 < 64) = True := eq_true (by omega)
        have q7 : (0 ≤ i7) = True := eq_true (by omega)
        have r7 : (i7 < 64) = True := eq_true (by omega)
        have v15 := hH2.cell i15.toNat (by omega)
        have v2 := hH2.cell i2.toNat (by omega)
        have v16 := hH2.cell i16.toNat (by omega)
        have v7 := hH2.cell i7.toNat (by omega)
        have hf2 := hH2.froz x.toNat
        obtain ⟨X, hX⟩ : ∃ X, (sp l0 t).getD i15.toNat 0 = X := ⟨_, rfl⟩
        obtain ⟨Y, hY⟩ : ∃ X, (sp l0 t).getD i2.toNat 0 = X := ⟨_, rfl⟩
        obtain ⟨Z, hZ⟩ : ∃ X, (sp l0 t).getD i16.toNat 0 = X := ⟨_, rfl⟩
        obtain ⟨V, hV⟩ : ∃ X, (sp l0 t).getD i7.toNat 0 = X := ⟨_, rfl⟩
        rw [hX] at v15
        rw [hY] at v2
        rw [hZ] at v16
        rw [hV] at v7
        have hh : (x.toNat = t ∧ i15.toNat = t - 15) ∧ (i2.toNat = t - 2 ∧ i16.toNat = t - 16 ∧ i7.toNat = t - 7) := by omega
        have KEEP := Aside0.mk (show ∀ (m : Nat) (v : Value), ((wr.drewN m).setCell ⟨g2, x.toNat, none⟩ v).cell? ⟨g2, i16.toNat, none⟩ = some (.int .u32 Z) ∧ ((wr.drewN m).setCell ⟨g2, x.toNat, none⟩ v).cell? ⟨g2, i7.toNat, none⟩ = some (.int .u32 V) from fun m v => ⟨(World.cell?_setCell_other (wr.drewN m) ⟨g2, x.toNat, none⟩ ⟨g2, i16.toNat, none⟩ v (by intro h; injection h; omega)).trans v16, (World.cell?_setCell_other (wr.drewN m) ⟨g2, x.toNat, none⟩ ⟨g2, i7.toNat, none⟩ v (by intro h; injection h; omega)).trans v7⟩)
        have HV := Aside0.mk (And.intro (And.intro hX hY) (And.intro hZ hV))
        have HX := Aside0.mk (And.intro hx (And.intro ht (And.intro h16 hh)))
        clear hx ht h16 h64 hc0 hH2 e15 e2 e16 e7 hX hY hZ hV hh
        go_wp2_with fail
        go_quiet (fail)
        go_wp2_with (first
          | ((with_reducible refine gate_callee (f := 14) rfl ?_); refine goesL_ (some 47) rfl rfl Try.func14 (by kernel_rfl) rfl #[.int .u32 X, .int .i64 7] rfl (by (try simp only [List.map_toArray, List.map_cons, List.map_nil]); first | done | rfl) ?_; (with_reducible refine (sha_turn.calls X 7 _ _ (tn7 X)).mono ?_); rintro e w' ⟨rfl, ⟨nd, rfl⟩⟩; refine ⟨_, rfl, ?_⟩)
          | ((with_reducible refine gate_callee (f := 14) rfl ?_); refine goesL_ (some 49) rfl rfl Try.func14 (by kernel_rfl) rfl #[.int .u32 X, .int .i64 18] rfl (by (try simp only [List.map_toArray, List.map_cons, List.map_nil]); first | done | rfl) ?_; (with_reducible refine (sha_turn.calls X 18 _ _ (tn18 X)).mono ?_); rintro e w' ⟨rfl, ⟨nd, rfl⟩⟩; refine ⟨_, rfl, ?_⟩)
          | ((with_reducible refine gate_callee (f := 14) rfl ?_); refine goesL_ (some 55) rfl rfl Try.func14 (by kernel_rfl) rfl #[.int .u32 Y, .int .i64 17] rfl (by (try simp only [List.map_toArray, List.map_cons, List.map_nil]); first | done | rfl) ?_; (with_reducible refine (sha_turn.calls Y 17 _ _ (tn17 Y)).mono ?_); rintro e w' ⟨rfl, ⟨nd, rfl⟩⟩; refine ⟨_, rfl, ?_⟩)
          | ((with_reducible refine gate_callee (f := 14) rfl ?_); refine goesL_ (some 57) rfl rfl Try.func14 (by kernel_rfl) rfl #[.int .u32 Y, .int .i64 19] rfl (by (try simp only [List.map_toArray, List.map_cons, List.map_nil]); first | done | rfl) ?_; (with_reducible refine (sha_turn.calls Y 19 _ _ (tn19 Y)).mono ?_); rintro e w' ⟨rfl, ⟨nd, rfl⟩⟩; refine ⟨_, rfl, ?_⟩))
        go_region_held3 (fun w' => w'.cell? ⟨g2, i16.toNat, none⟩ = some (.int .u32 Z) ∧ w'.cell? ⟨g2, i7.toNat, none⟩ = some (.int .u32 V)) (first | (with_reducible exact KEEP.out _ _) | exact And.intro v16 v7) (fail)
        go_wp2_with fail
        go_roundg k1
        case measure => omega
        case rel =>
          obtain ⟨hx, ht, h16, ⟨ex, f15⟩, f2, f16, f7⟩ := HX.out
          obtain ⟨⟨hX, hY⟩, hZ, hV⟩ := HV.out
          refine ⟨_, t + 1, rfl, ⟨?_, by omega⟩, ⟨?_⟩, ⟨?_⟩, ⟨?_⟩⟩
          · show wrap64 (x + 1) = _
            rw [← i64_w, i64_of _ (by omega) (by omega)]; omega
          · exact (H1.out.drewN _).away (by have := HG.out.2; show g1 ≠ g2; omega)
          · have := (H2.out.drewN (nq + nd + nd + nd + nd + 1)).set x.toNat (nx (sp l0 t) t)
            rw [sp, if_neg h16]
            rw [ex] at this ⊢
            unfold nx gw at this ⊢
            rw [f15] at hX
            rw [f2] at hY
            rw [f16] at hZ
            rw [f7] at hV
            rw [hX, hY, hZ, hV] at this ⊢
            exact this
          · exact below_set (pw_below_drewN HB.out _) (by have := HG.out; omega)
end Go.Proofs.Ytfgiihaefabblaa.A
