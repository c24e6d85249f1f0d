-- a text of this claim
import Derived.Test.YtfgiihaefabblaaRows
import Derived.Test.YtfgiihaefabblaaS11
import Derived.WalkKit
import Derived.ProofKit
import Derived.OpenShut
import Derived.Deep.Matrix
import Derived.ShutString
import Derived.ChangeOld
import Derived.Below
import Derived.SizedLaws
import Derived.Test.YtfgiihaefabblaaWSized
namespace Go.Proofs.Ytfgiihaefabblaa.shaParts
open Go.ChangeShapes Go.WideShapes Go.ChangeAt Go.RowKit
open Go.ChangeMaps (open_string shut_string)
set_option linter.unusedVariables false
theorem own : ownKnob Try.prog.godebug = none := by kernel_rfl
theorem laidOut : laidOutB Try.prog = true := by kernel_rfl

set_option maxRecDepth 100000 in
theorem lifted (os : Os) (started : os.Started) (H : Type) (enc : TypeId × Value → H) :
    ReturnsInHanded {} Try.checked os 5 .any (Rows.shaPartsSpec.pre6 enc Try.prog Try.f5 Rows.shaPartsRow.domain false) (Rows.shaPartsSpec.post enc Try.prog Try.f5 false true false false) := by
  refine returnsInHanded_of_change_sized (C := Try.checked) own started (by kernel_rfl) Try.func5
    (ChangeSpec.witness6 (enc := enc) (C := Try.checked) false ⟨#[], #[.slice none 0 0], []⟩ 8 (by kernel_rfl) (by kernel_rfl) (by kernel_rfl) (by kernel_rfl)) ?_
  intro W base args ds gs before hval0 hW hcnd hsz0 _
  have hsz : (DataW.weightsEach Try.prog (Try.f5.params.toList ++ Rows.shaPartsSpec.plain.varTypes Try.prog) (ds ++ gs)).all (· ≤ reachBytes) = true := hsz0
  have hval : ∀ (j : Nat) t v, Try.f5.params[j]? = some t → args[j]? = some v → Value.okWide Try.prog W .any base t v := hval0
  have hW' := hW
  obtain ⟨p, q, hA0, hV, rfl, hfz, hnd⟩ := hW
  have hA : DataW.TrodAll enc Try.prog W 0 (fun _ => true) true Try.f5.params.toList args.toList ds p := hA0
  rw [Try.params5] at hA hval hsz
  obtain ⟨v0, vs0, d0, ds0, p0, q0, hargs, rfl, rfl, h0, r0⟩ := trodAll_cons hA
  obtain ⟨rfl, rfl, rfl⟩ := trodAll_nil r0
  obtain rfl : args = #[v0] := by cases args; simp_all
  obtain ⟨rfl, rfl⟩ := trodVars_none hV
  obtain ⟨A0, len0, cap0, rfl⟩ := okWide_slice Try.underlying31 (hval 0 31 v0 rfl rfl)
  have k0 := h0
  have lt0 : ∀ x ∈ p0, x.block < W.heap.size := by obtain ⟨m, hm⟩ := k0; exact DataW.trod_lt m _ _ _ hm
  obtain ⟨l0, hr0, hlen0, hc0, hby0⟩ : ∃ l0 : List (List Int), Go.Proofs.YtfgiihaefabblaaW.PrintWords.Kd.C (Go.Proofs.YtfgiihaefabblaaW.PrintWords.Kd.slice 5 (Go.Proofs.YtfgiihaefabblaaW.PrintWords.Kd.int .u8)) W A0 l0.length l0 ∧ l0.length = len0 ∧ l0.length ≤ cap0 ∧ ∀ x ∈ l0, A.bytesB x = true := by
    obtain ⟨fuel, hf⟩ := h0
    rcases Go.Deep.open_int_rows Try.underlying31 Try.underlying22 Try.underlying5 (by kernel_rfl) (by kernel_rfl) hf with ⟨hcs, _⟩ | ⟨a, len, cap, AA, L, C, Z, hcs, _, hl, hm, _, hcell⟩
    · simp [Value.cells] at hcs
      obtain ⟨rfl, rfl, rfl⟩ := hcs
      exact ⟨[], Go.Proofs.YtfgiihaefabblaaW.PrintWords.Kd.C_nil _ _, rfl, by simp, by simp⟩
    · simp [Value.cells] at hcs
      obtain ⟨rfl, rfl, rfl⟩ := hcs
      have hm' : cap0 ≤ 9223372036854775807 := hm
      have e : ((List.range len0).map fun r => (Z r).take (L r)).length = len0 := by simp
      refine ⟨(List.range len0).map fun r => (Z r).take (L r), ?_, e, by omega, ?_⟩
      · rw [e]
        refine ⟨e, by omega, fun _ => ⟨a, rfl, fun j p hj => ?_⟩⟩
        obtain ⟨hj1, hj2⟩ := List.getElem?_eq_some_iff.1 hj
        rw [e] at hj1
        simp only [List.getElem_map, List.getElem_range] at hj2
        subst hj2
        obtain ⟨g1, g2, g3, g4, g5, g6, g7⟩ := hcell j (by omega)
        have g3' : C j ≤ 9223372036854775807 := g3
        have e2 : ((Z j).take (L j)).length = L j := by rw [List.length_take]; omega
        refine ⟨[.slice (AA j) (L j) (C j)], rfl, ⟨AA j, C j, by rw [e2], by omega, ?_⟩, fun i u hi => ?_⟩
        · rw [e2]
          refine Go.Proofs.YtfgiihaefabblaaW.PrintWords.Kd.C_of_reads (d := (0 : Int)) (h1 := fun _ => rfl) ⟨e2, by omega, fun hp => ?_⟩
          cases hA : AA j with
          | none => have := g6 hA; omega
          | some a' =>
            refine ⟨a', rfl, fun c hc => ?_⟩
            rw [(g7 a' hA).2 c (by omega)]
            congr 2
            rw [List.getD_eq_getElem?_getD, List.getD_eq_getElem?_getD, List.getElem?_take, if_pos hc]
        · cases i with
          | zero =>
            obtain rfl := Option.some.inj hi
            have hs : (Go.Proofs.YtfgiihaefabblaaW.PrintWords.Kd.slice 5 (Go.Proofs.YtfgiihaefabblaaW.PrintWords.Kd.int .u8)).sz = 1 := rfl
            rw [hs, Nat.mul_one, Nat.add_zero]
            exact g1
          | succ i => simp at hi
      · intro x hx
        obtain ⟨r, hr, rfl⟩ := List.mem_map.1 hx
        have hr := List.mem_range.1 hr
        obtain ⟨_, _, _, _, g5, _, _⟩ := hcell r (by omega)
        exact A.bytes_wf fun n hn => g5 n (List.mem_of_mem_take hn)
  clear hA0 hval0 hsz0 hsz
  subst hlen0
  obtain ⟨k, hk⟩ := A.parts_all l0 hby0
  refine (A.apostillelaw6_ShaParts.calls k A0 cap0 l0 true W hr0 hc0 rfl hk).mono fun e W' ⟨he, bel⟩ => ?_
  subst he
  exact ⟨_, rfl, _, _, _, [], _, [], hW', trodAll_mk1 (shut_bool Try.underlying4 _), (trodAll_cons_mk (Below.trod laidOut (by kernel_rfl) (of_decide_eq_true (by kernel_rfl)) k0 bel lt0) trodAll_mk0), rfl, bel.frame _, fun h => by cases h⟩
theorem over : Rows.shaPartsRow.holds Try.pinned (OpenSpec.ofChange Rows.shaPartsSpec) :=
  OpenClaim.holds_of_wide 5 Try.f5 rfl rfl rfl rfl rfl rfl rfl ⟨rfl, rfl, rfl, rfl, rfl⟩ rfl rfl rfl rfl rfl (by kernel_rfl) Try.func5 (by kernel_rfl)
    (of_decide_eq_true (by kernel_rfl)) (by unfold Func.isWrapper; first | (rw [if_pos (by decide +kernel)]; kernel_rfl) | (rw [if_neg (by decide +kernel)]; exact ⟨rfl, rfl⟩))
    (fun os started H enc _ => lifted os started H enc)
theorem proved : Rows.ShaPartsSaid := over
#print axioms proved
end Go.Proofs.Ytfgiihaefabblaa.shaParts
namespace Go.Proofs.Ytfgiihaefabblaa
/-- The row, under a short name, for the claim. -/
theorem shaParts_holds : Rows.ShaPartsSaid := shaParts.proved
end Go.Proofs.Ytfgiihaefabblaa
