/- The row of WhenGets. Conditions: none. -/
import Derived.Test.YthmdefgepnkgiaaRows
import Derived.Test.YthmdefgepnkgiaaP14j
import Derived.Test.YthmdefgepnkgiaaGL
import Derived.Test.YthmdefgepnkgiaaGN
import Derived.WalkKit
import Derived.ProofKit
import Derived.OpenShut
import Derived.ShutString
import Derived.ChangeOld
import Derived.Below
import Derived.SizedLaws
namespace Go.Proofs.Ythmdefgepnkgiaa.whenGets
open Go.ChangeShapes Go.WideShapes Go.ChangeAt Go.RowKit
open Go.ChangeMaps (open_string shut_string)
set_option linter.unusedVariables false
theorem own : ownKnob Try.prog.godebug = none := by kernel_rfl
theorem laidOut : laidOutB Try.prog = true := by kernel_rfl
theorem calls (W : World) (t0 : Int) (b0 : List Int) (c0 : List (List Eng.DV)) (m0 : Nat) (v0 : Value) (rep0 : Eng.RepA (Eng.gh0 W) W (.one true [.d (.int .u8 t0), .d (.ints .u8 b0), .d (.sl 3 c0)]) v0) (ht0 : 0 ≤ t0 ∧ t0 < 256) (hb0 : ∀ x ∈ b0, 0 ≤ x ∧ x < 256) (hk0 : ∀ k ∈ c0, Eng.WTf Go.Proofs.Try.prog m0 25 k) : Calls Go.Proofs.Try.prog 4 #[v0] W fun e w' => e = .returned (.bool true) ∧ RowKit.Below W.heap.size W w' :=
  Eng.ok_calls (avs := [.one true [.d (.int .u8 t0), .d (.ints .u8 b0), .d (.sl 3 c0)]]) (Eng.via_true (enc := Eng.law14_WhenGets_enc) (x := true) (Eng.law14_WhenGets_F_ok 20000 1) (congrArg (fun o => Eng.CallK.via o Eng.law14_WhenGets_enc) (Eng.WhenGets_true 20000 0 (by omega) t0 b0 c0 hb0))) W [v0] (.cons rep0 .nil)
set_option maxRecDepth 100000 in
theorem lifted (os : Os) (started : os.Started) (H : Type) (enc : TypeId × Value → H) :
    ReturnsInHanded {} Try.checked os 4 .any (Rows.whenGetsSpec.pre6 enc Try.prog Try.f4 Rows.whenGetsRow.domain false) (Rows.whenGetsSpec.post enc Try.prog Try.f4 false true false false) := by
  refine returnsInHanded_of_change_sized (C := Try.checked) own started (by kernel_rfl) Try.func4
    (ChangeSpec.witness6 (enc := enc) (C := Try.checked) false ⟨#[], #[.agg #[.int .u8 0, .slice none 0 0, .slice none 0 0]], []⟩ 8 (by kernel_rfl) (by kernel_rfl) (by kernel_rfl) (by kernel_rfl)) ?_
  intro W base args ds gs before hval0 hW hcnd hsz0 _
  have hval : ∀ (j : Nat) t v, Try.f4.params[j]? = some t → args[j]? = some v → Value.okWide Try.prog W .any base t v := hval0
  have hW' := hW
  obtain ⟨p, q, hA0, hV, rfl, hfz, hnd⟩ := hW
  have hA : DataW.TrodAll enc Try.prog W 0 (fun _ => true) true Try.f4.params.toList args.toList ds p := hA0
  rw [Try.params4] at hA hval
  obtain ⟨v0, vs0, d0, ds0, p0, q0, hargs, rfl, rfl, h0, r0⟩ := trodAll_cons hA
  obtain ⟨rfl, rfl, rfl⟩ := trodAll_nil r0
  obtain rfl : args = #[v0] := by cases args; simp_all
  obtain ⟨rfl, rfl⟩ := trodVars_none hV
  have k0 := h0
  have lt0 : ∀ x ∈ p0, x.block < W.heap.size := by obtain ⟨m, hm⟩ := k0; exact DataW.trod_lt m _ _ _ hm
  obtain ⟨t0, b0, c0, m0, rep0, ht0, hb0, hk0⟩ := Eng.node_arg (hval 0 25 v0 rfl rfl) h0
  clear hA0 hval0 hsz0
  refine (calls W t0 b0 c0 m0 v0 rep0 ht0 hb0 hk0).mono fun e W' ⟨he, bel⟩ => ?_
  subst he
  exact ⟨_, rfl, _, _, _, [], _, [], hW', trodAll_mk1 (shut_bool Try.underlying4 _), (trodAll_cons_mk (Below.trod laidOut (by kernel_rfl) (of_decide_eq_true (by kernel_rfl)) k0 bel lt0) trodAll_mk0), rfl, bel.frame _, fun h => by cases h⟩
theorem over : Rows.whenGetsRow.holds Try.pinned (OpenSpec.ofChange Rows.whenGetsSpec) :=
  OpenClaim.holds_of_wide 4 Try.f4 rfl rfl rfl rfl rfl rfl rfl ⟨rfl, rfl, rfl, rfl, rfl⟩ rfl rfl rfl rfl rfl (by kernel_rfl) Try.func4 (by kernel_rfl)
    (of_decide_eq_true (by kernel_rfl)) (by unfold Func.isWrapper; first | (rw [if_pos (by decide +kernel)]; kernel_rfl) | (rw [if_neg (by decide +kernel)]; exact ⟨rfl, rfl⟩))
    (fun os started H enc _ => lifted os started H enc)
theorem proved : Rows.WhenGetsSaid := over
#print axioms proved
end Go.Proofs.Ythmdefgepnkgiaa.whenGets
namespace Go.Proofs.Ythmdefgepnkgiaa
/-- The row, under a short name, for the claim. -/
theorem whenGets_holds : Rows.WhenGetsSaid := whenGets.proved
end Go.Proofs.Ythmdefgepnkgiaa
