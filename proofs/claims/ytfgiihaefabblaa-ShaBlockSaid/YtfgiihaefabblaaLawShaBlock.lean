-- a text of this claim
import Derived.Test.YtfgiihaefabblaaRows
import Derived.Test.YtfgiihaefabblaaS14
import Derived.WalkKit
import Derived.ProofKit
import Derived.OpenShut
import Derived.ShutString
import Derived.ChangeOld
import Derived.Below
import Derived.SizedLaws
import Derived.Test.YtfgiihaefabblaaWSized
namespace Go.Proofs.Ytfgiihaefabblaa.shaBlock
open Go.ChangeShapes Go.WideShapes Go.ChangeAt Go.RowKit
open Go.ChangeMaps (open_string shut_string)
set_option linter.unusedVariables false
theorem own : ownKnob Try.prog.godebug = none := by kernel_rfl
theorem laidOut : laidOutB Try.prog = true := by kernel_rfl
def IsRow (k : IntKind) (w : World) (a : Option Addr) (len cap : Nat) (zs : List Int) : Prop :=
  (a = none ∧ len = 0 ∧ cap = 0 ∧ zs = []) ∨
  ∃ x, a = some x ∧ len ≤ cap ∧ cap ≤ maxLen ∧ zs.length = cap ∧ (∀ i, i < zs.length → w.cell? (x.add i) = some (.int k (zs.getD i 0))) ∧ ∀ n ∈ zs, (Lit.int k n).wf = true
theorem chunks {q : IntKind} (cs : List Value) (zs : List Int) (h : (List.range cs.length).map (fun i => (cs.drop (i * 1)).take 1) = zs.map fun z => [Value.int q z]) : cs = zs.map (Value.int q) := by
  have hl : cs.length = zs.length := by simpa using congrArg List.length h
  apply List.ext_getElem (by simpa using hl)
  intro i h1 h2
  have h3 : ((List.range cs.length).map (fun i => (cs.drop (i * 1)).take 1))[i]? = (zs.map fun z => [Value.int q z])[i]? := by rw [h]
  have h4 : i < zs.length := by omega
  rw [List.getElem?_map, List.getElem?_map, List.getElem?_range h1, List.getElem?_eq_getElem h4] at h3
  simp only [Option.map_some, Nat.mul_one, Option.some.injEq] at h3
  rw [List.drop_eq_getElem_cons h1, List.take_succ_cons, List.take_zero] at h3
  simpa using h3
theorem ints_of {H : Type} {enc : TypeId × Value → H} {P : Program} {e : TypeId} {q : IntKind} {W : World} {base : Nat} {sp : Nat → Bool} {held : Bool} (he : P.underlying e = some (.int q)) {m : Nat} {cs : List Value} : ∀ (L : List Nat) (xs : List (DataW H × List MemPlace)),
    L.mapM (fun i => DataW.trod enc P W base sp held m e ((cs.drop (i * 1)).take 1)) = some xs → ∃ zs : List Int, L.map (fun i => (cs.drop (i * 1)).take 1) = zs.map fun z => [.int q z]
  | [], xs, h => ⟨[], rfl⟩
  | i :: L, xs, h => by
    rw [List.mapM_cons] at h
    simp only [bind, Option.bind_eq_some_iff, pure, Option.some.injEq] at h
    obtain ⟨y, hy, ys, hys, rfl⟩ := h
    obtain ⟨zs, hz⟩ := ints_of he L ys hys
    obtain ⟨a, ea, _, _⟩ := DataW.trod_int he hy
    exact ⟨a :: zs, by rw [List.map_cons, hz, ea]; rfl⟩

set_option maxRecDepth 100000 in
theorem lifted (os : Os) (started : os.Started) (H : Type) (enc : TypeId × Value → H) :
    ReturnsInHanded {} Try.checked os 4 .any (Rows.shaBlockSpec.pre6 enc Try.prog Try.f4 Rows.shaBlockRow.domain false) (Rows.shaBlockSpec.post enc Try.prog Try.f4 false true false false) := by
  refine returnsInHanded_of_change_sized (C := Try.checked) own started (by kernel_rfl) Try.func4
    (ChangeSpec.witness6 (enc := enc) (C := Try.checked) false ⟨#[], #[.agg #[.int .u32 0, .int .u32 0, .int .u32 0, .int .u32 0, .int .u32 0, .int .u32 0, .int .u32 0, .int .u32 0], .slice none 0 0], []⟩ 8 (by kernel_rfl) (by kernel_rfl) (by kernel_rfl) (by kernel_rfl)) ?_
  intro W base args ds gs before hval0 hW hcnd hsz0 _
  have hsz : (DataW.weightsEach Try.prog (Try.f4.params.toList ++ Rows.shaBlockSpec.plain.varTypes Try.prog) (ds ++ gs)).all (· ≤ reachBytes) = true := hsz0
  have hval : ∀ (j : Nat) t v, Try.f4.params[j]? = some t → args[j]? = some v → Value.okWide Try.prog W .any base t v := hval0
  have hW' := hW
  obtain ⟨p, q, hA0, hV, rfl, hfz, hnd⟩ := hW
  have hA : DataW.TrodAll enc Try.prog W 0 (fun _ => true) true Try.f4.params.toList args.toList ds p := hA0
  rw [Try.params4] at hA hval hsz
  obtain ⟨v0, vs0, d0, ds0, p0, q0, hargs, rfl, rfl, h0, r0⟩ := trodAll_cons hA
  obtain ⟨v1, vs1, d1, ds1, p1, q1, rfl, rfl, rfl, h1, r1⟩ := trodAll_cons r0
  obtain ⟨rfl, rfl, rfl⟩ := trodAll_nil r1
  obtain rfl : args = #[v0, v1] := by cases args; simp_all
  obtain ⟨rfl, rfl⟩ := trodVars_none hV
  have k0 := h0
  have lt0 : ∀ x ∈ p0, x.block < W.heap.size := by obtain ⟨m, hm⟩ := k0; exact DataW.trod_lt m _ _ _ hm
  obtain ⟨h, hh, rfl⟩ : ∃ h : List Int, h.length = 8 ∧ v0 = .agg (A.ar h) := by
    have hv := hval 0 28 v0 rfl rfl
    simp only [Value.okWide, Try.underlying28] at hv
    obtain ⟨cs, rfl, hcs, _⟩ := hv
    have hcs : cs.size = 8 := hcs.trans (by kernel_rfl)
    obtain ⟨fuel, hf⟩ := h0
    cases fuel with
    | zero => simp [DataW.trod] at hf
    | succ m =>
      rw [DataW.trod_step] at hf
      unfold DataW.trodStep at hf
      have hc : Try.prog.cellsOf 27 = 1 := by kernel_rfl
      have hc8 : Try.prog.cellsOf 28 = 8 := by kernel_rfl
      simp only [Try.underlying28, Value.cells] at hf
      rw [if_pos (by simpa [hc8] using hcs)] at hf
      simp only [Option.map_eq_some_iff, hc] at hf
      obtain ⟨ys, hy, _⟩ := hf
      obtain ⟨zs, hz⟩ := ints_of Try.underlying27 _ ys hy
      have hlen : zs.length = 8 := by
        have := congrArg List.length hz
        simpa using this.symm
      refine ⟨zs, hlen, ?_⟩
      have hcl : cs.toList.length = 8 := by simpa using hcs
      rw [← hcl] at hz
      have := chunks _ _ hz
      show Value.agg cs = Value.agg (zs.map (Value.int .u32)).toArray
      rw [← this]
  obtain ⟨a1, len1, cap1, rfl⟩ := okWide_slice Try.underlying22 (hval 1 22 v1 rfl rfl)
  have k1 := h1
  have lt1 : ∀ x ∈ p1, x.block < W.heap.size := by obtain ⟨m, hm⟩ := k1; exact DataW.trod_lt m _ _ _ hm
  obtain ⟨z1, w1⟩ : ∃ zs, IsRow .u8 W a1 len1 cap1 zs := by
    obtain ⟨fuel, hf⟩ := h1
    rcases open_ints Try.underlying22 Try.underlying5 (by kernel_rfl) hf with ⟨hcs, _⟩ | ⟨x, l, c, zs, hcs, _, hl, hm, hz, _, hcell, hwz⟩
    · simp [Value.cells] at hcs
      obtain ⟨rfl, rfl, rfl⟩ := hcs
      exact ⟨[], .inl ⟨rfl, rfl, rfl, rfl⟩⟩
    · simp [Value.cells] at hcs
      obtain ⟨rfl, rfl, rfl⟩ := hcs
      exact ⟨zs, .inr ⟨_, rfl, hl, hm, by simpa using hz, hcell, hwz⟩⟩
  clear hA0 hval0 hsz0 hsz
  refine (A.shaBlock_walk h hh a1 len1 cap1 z1 W w1).mono fun e W' ⟨he, bel⟩ => ?_
  subst he
  exact ⟨_, rfl, _, _, _, [], _, [], hW', trodAll_mk1 (shut_bool Try.underlying4 _), (trodAll_cons_mk (Below.trod laidOut (by kernel_rfl) (of_decide_eq_true (by kernel_rfl)) k0 bel lt0) (trodAll_cons_mk (Below.trod laidOut (by kernel_rfl) (of_decide_eq_true (by kernel_rfl)) k1 bel lt1) trodAll_mk0)), rfl, bel.frame _, fun h => by cases h⟩
theorem over : Rows.shaBlockRow.holds Try.pinned (OpenSpec.ofChange Rows.shaBlockSpec) :=
  OpenClaim.holds_of_wide 4 Try.f4 rfl rfl rfl rfl rfl rfl rfl ⟨rfl, rfl, rfl, rfl, rfl⟩ rfl rfl rfl rfl rfl (by kernel_rfl) Try.func4 (by kernel_rfl)
    (of_decide_eq_true (by kernel_rfl)) (by unfold Func.isWrapper; first | (rw [if_pos (by decide +kernel)]; kernel_rfl) | (rw [if_neg (by decide +kernel)]; exact ⟨rfl, rfl⟩))
    (fun os started H enc _ => lifted os started H enc)
theorem proved : Rows.ShaBlockSaid := over
#print axioms proved
end Go.Proofs.Ytfgiihaefabblaa.shaBlock
namespace Go.Proofs.Ytfgiihaefabblaa
/-- The row, under a short name, for the claim. -/
theorem shaBlock_holds : Rows.ShaBlockSaid := shaBlock.proved
end Go.Proofs.Ytfgiihaefabblaa
