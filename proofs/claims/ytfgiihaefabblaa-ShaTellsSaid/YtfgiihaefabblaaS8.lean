import Derived.Test.YtfgiihaefabblaaS7
import Derived.Test.YtfgiihaefabblaaS6
import Derived.Lib.SlBytesConst
import Derived.Deep.RegionHeld3
import Derived.Deep.RegionWith
import Derived.Deep.DrawnRows
import Derived.Deep.QuietTactic
import Derived.BigQuiet
import Derived.Outline
namespace Go.Proofs.Ytfgiihaefabblaa.A
open Go.RowKit Go.Proofs.YtfgiihaefabblaaW.PrintWords Go.Proofs.YtfgiihaefabblaaW.PrintLast Go.Proofs.YtfgiihaefabblaaW.PrintMore
attribute [local go_sem] max2_int min2_int max_two min_two max_three min_three max_four min_four
attribute [local go_sem ↓] Go.wp_at_zero Go.wp_at_succ
set_option linter.unusedVariables false
set_option linter.unusedSimpArgs false


theorem C_block {k : IntKind} {l : List Int} {W : World} {g t : Nat} {fr : Nat × Nat} (hG : W.heap[g]? = some (.cells (l.map (Value.int k)).toArray t fr)) (hm : l.length ≤ 9223372036854775807) : Kd.C (Kd.int k) W (some ⟨g, 0, none⟩) l.length l := by
  refine ⟨rfl, hm, fun _ => ⟨_, rfl, fun j p hj => ⟨[.int k p], rfl, rfl, fun i u hi => ?_⟩⟩⟩
  cases i with
  | zero =>
    obtain rfl := Option.some.inj hi
    rw [add_off]
    unfold World.cell?
    rw [hG]
    have hs : (Kd.int k).sz = 1 := rfl
    rw [hs, Nat.mul_one]
    simp [hj]
  | succ i => exact absurd hi (by simp)
theorem row_C {W : World} {G n c : Nat} {A : Option Addr} {l : List Int} (hG : W.heap[G]? = some (.cells #[.slice A n c] 22 (0, 0))) (h : Kd.C (Kd.int .u8) W A l.length l) (hn : n = l.length) (hc : l.length ≤ c) : Kd.C (Kd.slice 5 (Kd.int .u8)) W (some ⟨G, 0, none⟩) ([l] : List (List Int)).length [l] := by
  subst hn
  refine ⟨rfl, by simp, fun _ => ⟨_, rfl, fun j p hj => ?_⟩⟩
  rcases j with _ | j
  · obtain rfl := Option.some.inj hj
    refine ⟨_, rfl, ⟨A, c, rfl, hc, h⟩, fun i u hi => ?_⟩
    rcases i with _ | i
    · obtain rfl := Option.some.inj hi
      rw [add_off]
      unfold World.cell?
      rw [hG]
      rfl
    · simp at hi
  · exact absurd hj (by simp)


def abcD : List UInt8 := [186, 120, 22, 191, 143, 1, 207, 234, 65, 65, 64, 222, 93, 174, 34, 35, 176, 3, 97, 163, 150, 23, 122, 156, 180, 16, 255, 97, 242, 0, 21, 173]
set_option maxHeartbeats 4000000 in
set_option maxRecDepth 100000 in
theorem law6_known.calls (k : Nat) (r1 : List Int) (w : World) (h : sha_Of.f k [[97, 98, 99]] = some r1) (hs : (strOfNums r1) = ⟨#[186, 120, 22, 191, 143, 1, 207, 234, 65, 65, 64, 222, 93, 174, 34, 35, 176, 3, 97, 163, 150, 23, 122, 156, 180, 16, 255, 97, 242, 0, 21, 173]⟩) : Calls Try.prog 9 #[] w fun e w' => e = .returned (.bool true) ∧ Below w.heap.size w w' := by
  have kc := fun (w : World) (C : Array Value) (n c : Nat) => Lib.run_convert_bytes_const (P := Try.prog) w 22 5 C n c Try.underlying22 Try.underlying5
  have HH := Aside0.mk h
  have HS := Aside0.mk hs
  clear h hs
  go_enter Try.func9, Try.ntmps9
  go_wp2_with fail
  refine (sha_Of.calls k (some ⟨w.heap.size + 1, 0, none⟩) 1 [[97, 98, 99]] r1 _ ?hC_ ?hc_ HH.out).mono ?_
  case hc_ => exact Nat.le_refl _
  case hC_ => exact row_C (n := 3) (c := 3) (A := some ⟨w.heap.size, 0, none⟩) (by have h_ := heap_alloc_last (w.alloc (.cells ([97, 98, 99].map (Value.int .u8)).toArray 5 (3, 4))) (.cells #[.slice (some ⟨w.heap.size, 0, none⟩) 3 3] 22); simpa using h_) (Kd.C_alloc (C_block (k := .u8) (l := [97, 98, 99]) (heap_alloc_last _ _) (by decide)) _) rfl (Nat.le_refl _)
  rintro e w1_ ⟨v1_, rfl, ho_, hb_⟩
  have HO := Aside0.mk ho_
  have hcv := own_string (P := Try.prog) (src := 22) (dst := 9) (e := 5) Try.underlying22 Try.underlying5 Try.underlying9 (Kd.own_of_R HO.out)
  rw [HS.out] at hcv
  have HB := Aside0.mk (below_step (below_alloc (below_alloc (Below.refl w.heap.size w) _) _) hb_)
  clear ho_ hb_
  go_wp2
  go_ret
  exact ⟨rfl, HB.out⟩

set_option maxHeartbeats 4000000 in
set_option maxRecDepth 100000 in
theorem shaTells_no (A0 : Option Addr) (c0 : Nat) (l0 : List Int) (w : World) (hl : 2000 < l0.length) : Calls Try.prog 3 #[.slice A0 l0.length c0] w fun e w' => e = .returned (.bool true) ∧ Below w.heap.size w w' := by
  have c1 : decide ((2000 : Int) < (l0.length : Int)) = true := decide_eq_true (by omega)
  clear hl
  go_enter Try.func3, Try.ntmps3
  go_wp2
  go_quiet (fail)
  go_wp2
  go_ret
  exact ⟨rfl, by repeat (first | exact Below.refl _ _ | apply below_drew1 | apply pw_below_drewN)⟩
set_option maxHeartbeats 8000000 in
set_option maxRecDepth 100000 in
theorem shaTells_yes (k : Nat) (A0 : Option Addr) (c0 : Nat) (l0 r1 : List Int) (w : World) (hr0 : Kd.C (Kd.int .u8) w A0 l0.length l0) (hc0 : l0.length ≤ c0) (hl : l0.length ≤ 2000) (h1 : sha_Of.f k [l0] = some r1) (h2 : apostilleref6_Of.f k l0 = some r1) (rk : List Int) (h3 : sha_Of.f k [[97, 98, 99]] = some rk ∧ (strOfNums rk) = ⟨#[186, 120, 22, 191, 143, 1, 207, 234, 65, 65, 64, 222, 93, 174, 34, 35, 176, 3, 97, 163, 150, 23, 122, 156, 180, 16, 255, 97, 242, 0, 21, 173]⟩) :
    Calls Try.prog 3 #[.slice A0 l0.length c0] w fun e w' => e = .returned (.bool true) ∧ Below w.heap.size w w' := by
  have c1 : decide ((2000 : Int) < (l0.length : Int)) = false := decide_eq_false (by omega)
  have HB := Aside0.mk (Below.refl w.heap.size w)
  have HK := Aside0.mk h3
  have ROW1 := Aside0.mk (show ∀ (W : World) (G : Nat), Below w.heap.size w W → W.heap[G]? = some (.cells #[.slice A0 l0.length c0] 22 (0, 0)) → Calls Try.prog 7 #[.slice (some ⟨G, 0, none⟩) 1 1] W fun e w' => ∃ v : Value, e = .returned v ∧ Kd.R (Kd.int .u8) 5 w' w.heap.size (fun _ => True) v r1 ∧ Below W.heap.size W w' from fun W G hW hG =>
    (sha_Of.calls k (some ⟨G, 0, none⟩) 1 [l0] r1 W (row_C hG (Kd.C_below hr0 hW) rfl hc0) (Nat.le_refl _) h1).mono fun e w' ⟨v, he, ho, hb⟩ => ⟨v, he, Kd.R_lower ho hW.size, hb⟩)
  have ROW2 := Aside0.mk (show ∀ (W : World), Below w.heap.size w W → Calls Try.prog 8 #[.slice A0 l0.length c0] W fun e w' => ∃ v : Value, e = .returned v ∧ Kd.R (Kd.int .u8) 5 w' w.heap.size (fun _ => True) v r1 ∧ Below W.heap.size W w' from fun W hW =>
    (apostilleref6_Of.calls k A0 c0 l0 r1 W (Kd.C_below hr0 hW) hc0 h2).mono fun e w' ⟨v, he, ho, hb⟩ => ⟨v, he, Kd.R_lower ho hW.size, hb⟩)
  clear hl hr0 hc0 h1 h2 h3
  go_enter Try.func3, Try.ntmps3
  go_wp2
  go_region_with (first
    | (go_at_call 7; (with_reducible refine (ROW1.out _ _ ?hb_ ?hg_).mono ?_); (case hb_ => exact (by repeat (first | (with_reducible first | exact HB.out | apply below_alloc | apply pw_below_drewN | apply below_drew1) | exact HB.out))); (case hg_ => first | exact HG.out | exact heap_alloc_last _ _); rintro e w1_ ⟨v1_, rfl, ho_, hb_⟩; have HO1 := Aside0.mk ho_; have hcv1 := own_string (P := Try.prog) (src := 22) (dst := 9) (e := 5) Try.underlying22 Try.underlying5 Try.underlying9 (Kd.own_of_R HO1.out); (try (have n_ := Aside0.mk (Kd.R_below HO2.out (below_step (by repeat (first | (with_reducible first | exact Below.refl _ _ | apply below_alloc | apply pw_below_drewN | apply below_drew1) | exact Below.refl _ _)) hb_)); clear HO2 hcv2; have HO2 := n_; clear n_; have hcv2 := own_string (P := Try.prog) (src := 22) (dst := 9) (e := 5) Try.underlying22 Try.underlying5 Try.underlying9 (Kd.own_of_R HO2.out))); (have n_ := Aside0.mk (below_step (by repeat (first | (with_reducible first | exact HB.out | apply below_alloc | apply pw_below_drewN | apply below_drew1) | exact HB.out)) hb_); clear HB; have HB := n_; clear n_); clear hb_ ho_)
    | (go_at_call 8; (with_reducible refine (ROW2.out _ ?hb_).mono ?_); (case hb_ => exact (by repeat (first | (with_reducible first | exact HB.out | apply below_alloc | apply pw_below_drewN | apply below_drew1) | exact HB.out))); rintro e w2_ ⟨v2_, rfl, ho_, hb_⟩; have HO2 := Aside0.mk ho_; have hcv2 := own_string (P := Try.prog) (src := 22) (dst := 9) (e := 5) Try.underlying22 Try.underlying5 Try.underlying9 (Kd.own_of_R HO2.out); (try (have HG := Aside0.mk ((hb_.block w.heap.size (by simp)).trans (heap_alloc_last _ _)))); (try (have n_ := Aside0.mk (Kd.R_below HO1.out (below_step (by repeat (first | (with_reducible first | exact Below.refl _ _ | apply below_alloc | apply pw_below_drewN | apply below_drew1) | exact Below.refl _ _)) hb_)); clear HO1 hcv1; have HO1 := n_; clear n_; have hcv1 := own_string (P := Try.prog) (src := 22) (dst := 9) (e := 5) Try.underlying22 Try.underlying5 Try.underlying9 (Kd.own_of_R HO1.out))); (have n_ := Aside0.mk (below_step (by repeat (first | (with_reducible first | exact HB.out | apply below_alloc | apply pw_below_drewN | apply below_drew1) | exact HB.out)) hb_); clear HB; have HB := n_; clear n_); clear hb_ ho_)
    | (go_at_call 9; (with_reducible refine (law6_known.calls k rk _ HK.out.1 HK.out.2).mono ?_); rintro e w3_ ⟨rfl, hb_⟩; (try (have n_ := Aside0.mk (Kd.R_below HO1.out (below_step (by repeat (first | (with_reducible first | exact Below.refl _ _ | apply below_alloc | apply pw_below_drewN | apply below_drew1) | exact Below.refl _ _)) hb_)); clear HO1 hcv1; have HO1 := n_; clear n_; have hcv1 := own_string (P := Try.prog) (src := 22) (dst := 9) (e := 5) Try.underlying22 Try.underlying5 Try.underlying9 (Kd.own_of_R HO1.out))); (try (have n_ := Aside0.mk (Kd.R_below HO2.out (below_step (by repeat (first | (with_reducible first | exact Below.refl _ _ | apply below_alloc | apply pw_below_drewN | apply below_drew1) | exact Below.refl _ _)) hb_)); clear HO2 hcv2; have HO2 := n_; clear n_; have hcv2 := own_string (P := Try.prog) (src := 22) (dst := 9) (e := 5) Try.underlying22 Try.underlying5 Try.underlying9 (Kd.own_of_R HO2.out))); (have n_ := Aside0.mk (below_step (by repeat (first | (with_reducible first | exact HB.out | apply below_alloc | apply pw_below_drewN | apply below_drew1) | exact HB.out)) hb_); clear HB; have HB := n_; clear n_); clear hb_))
  all_goals (go_wp2; go_ret; exact ⟨rfl, (by repeat (first | (with_reducible first | exact HB.out | apply below_alloc | apply pw_below_drewN | apply below_drew1) | exact HB.out))⟩)
end Go.Proofs.Ytfgiihaefabblaa.A
