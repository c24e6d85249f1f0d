-- a text of this claim
import Derived.Test.YtfgiihaefabblaaAx0
import Derived.Test.YtfgiihaefabblaaS6
import Derived.Lib.SlBytesConst
namespace Go.Proofs.Ytfgiihaefabblaa.A
open Go.RowKit Go.Proofs.YtfgiihaefabblaaW.PrintWords Go.Proofs.YtfgiihaefabblaaW.PrintLast Go.Proofs.YtfgiihaefabblaaW.PrintMore
attribute [local go_sem] max2_int min2_int max_two min_two max_three min_three max_four min_four   -- for this text's walks alone
set_option linter.unusedVariables false
set_option linter.unusedSimpArgs false

/-! ### apostillelaw6_known: function 9 -/
def apostillelaw6_known.f (k : Nat)  : Option (Bool) := (sha_Of.f k (([(([97, 98, 99] : List Int))] : List (List Int)))).bind fun t136 => (some ((strOfNums t136).toList == ([186, 120, 22, 191, 143, 1, 207, 234, 65, 65, 64, 222, 93, 174, 34, 35, 176, 3, 97, 163, 150, 23, 122, 156, 180, 16, 255, 97, 242, 0, 21, 173] : List UInt8)))
theorem apostillelaw6_known.mono : ∀ k, LeO (apostillelaw6_known.f k ) (apostillelaw6_known.f (k + 1) ) := by
  intro  k
  unfold apostillelaw6_known.f
  repeat' first
      | (with_reducible exact sha_Of.mono _ _)
      | (with_reducible exact LeO.refl _)
      | (with_reducible exact LeO.none _)
      | (with_reducible refine LeO.ite ?_ ?_)
      | (with_reducible refine LeO.bind ?_ (fun _ => ?_))
      | exact sha_Of.mono _ _
      | exact LeO.none _
      | refine LeO.ite ?_ ?_
      | refine LeO.bind ?_ (fun _ => ?_)


theorem C_block {k : IntKind} {l : List Int} {W : World} {g t : Nat} {fr : Nat × Nat} (hG : W.heap[g]? = some (.cells (l.map (Value.int k)).toArray t fr)) (hm : l.length ≤ 9223372036854775807) : Kd.C (Kd.int k) W (some ⟨g, 0, none⟩) l.length l := by
  refine ⟨rfl, hm, fun _ => ⟨_, rfl, fun j p hj => ⟨[.int k p], rfl, rfl, fun i u hi => ?_⟩⟩⟩
  cases i with
  | zero =>
    obtain rfl := Option.some.inj hi
    rw [add_off]
    unfold World.cell?
    rw [hG]
    have hs : (Kd.int k).sz = 1 := rfl
    rw [hs, Nat.mul_one]
    simp [hj]
  | succ i => exact absurd hi (by simp)
theorem row_C {W : World} {G n c : Nat} {A : Option Addr} {l : List Int} (hG : W.heap[G]? = some (.cells #[.slice A n c] 22 (0, 0))) (h : Kd.C (Kd.int .u8) W A l.length l) (hn : n = l.length) (hc : l.length ≤ c) : Kd.C (Kd.slice 5 (Kd.int .u8)) W (some ⟨G, 0, none⟩) ([l] : List (List Int)).length [l] := by
  subst hn
  refine ⟨rfl, by simp, fun _ => ⟨_, rfl, fun j p hj => ?_⟩⟩
  rcases j with _ | j
  · obtain rfl := Option.some.inj hj
    refine ⟨_, rfl, ⟨A, c, rfl, hc, h⟩, fun i u hi => ?_⟩
    rcases i with _ | i
    · obtain rfl := Option.some.inj hi
      rw [add_off]
      unfold World.cell?
      rw [hG]
      rfl
    · simp at hi
  · exact absurd hj (by simp)

set_option maxHeartbeats 8000000 in
set_option maxRecDepth 100000 in
theorem apostillelaw6_known.calls (k : Nat)  (r : Bool) (w : World) (h : apostillelaw6_known.f k  = some r) :
    Calls Try.prog 9 #[] w fun e w' => e = .returned (.bool r) ∧ Below w.heap.size w w' := by
  have kc := fun (w : World) (C : Array Value) (n c : Nat) => Lib.run_convert_bytes_const (P := Try.prog) w 22 5 C n c Try.underlying22 Try.underlying5
  obtain ⟨r1, hh, hr⟩ := Option.bind_eq_some_iff.mp h
  have HH := Aside0.mk hh
  obtain rfl := Option.some.inj hr
  clear h hh hr
  go_enter Try.func9, Try.ntmps9
  go_wp2_with fail
  refine (sha_Of.calls k (some ⟨w.heap.size + 1, 0, none⟩) 1 [[97, 98, 99]] r1 _ ?hC_ ?hc_ HH.out).mono ?_
  case hc_ => exact Nat.le_refl _
  case hC_ => exact row_C (n := 3) (c := 3) (A := some ⟨w.heap.size, 0, none⟩) (by have h_ := heap_alloc_last (w.alloc (.cells ([97, 98, 99].map (Value.int .u8)).toArray 5 (3, 4))) (.cells #[.slice (some ⟨w.heap.size, 0, none⟩) 3 3] 22); simpa using h_) (Kd.C_alloc (C_block (k := .u8) (l := [97, 98, 99]) (heap_alloc_last _ _) (by decide)) _) rfl (Nat.le_refl _)
  rintro e w1_ ⟨v1_, rfl, ho_, hb_⟩
  have HO := Aside0.mk ho_
  have hcv := own_string (P := Try.prog) (src := 22) (dst := 9) (e := 5) Try.underlying22 Try.underlying5 Try.underlying9 (Kd.own_of_R HO.out)
  have HB := Aside0.mk (below_step (below_alloc (below_alloc (Below.refl w.heap.size w) _) _) hb_)
  clear ho_ hb_
  go_wp2
  go_ret
  exact ⟨by first | rfl | (simp; done), HB.out⟩

end Go.Proofs.Ytfgiihaefabblaa.A
