/- Any bytes' number and back, and any number as so many bytes: the program's answers are the document's, for every row of bytes and every count. -/
import Derived.Test.YtlmjbhhapllfgaaNatBz
namespace Go.Proofs.Ytlmjbhhapllfgaa.Pure
open Go.RowKit Go.Proofs.Ytlmjbhhapllfgaa.A Go.Proofs.Ytlmjbhhapllfgaa.V Go.Proofs.YtlmjbhhapllfgaaW.PrintWords Go.Proofs.YtlmjbhhapllfgaaW.PrintLast
set_option linter.unusedVariables false
set_option linter.unusedSimpArgs false

theorem NatBytes_j0 {l0 : List Int} (hb : B8 l0) (V : Nat) (hV : V = if l0.length > 1024 then 0 else be l0) (hm : (nm V).length < 140737488355328) :
    Ev (fun k => apostillelaw7_NatBytes.j0 k l0 (nm V) false) true := by
  have hk : Ev (fun k => (apostillelaw7_known.f k).bind fun t => some t) true := Ev.bind (f := fun _ t => some t) known (Ev.now _)
  by_cases h : l0.length > 1024
  · rw [if_pos h] at hV
    subst hV
    refine Ev.step (fun k => ?_) hk
    simp only [apostillelaw7_NatBytes.j0]
    rw [if_neg (by simp), if_pos (by omega), nm_zero, if_pos (by simp)]
  · rw [if_neg h] at hV
    have e : bytesR V (l0.length : Int) = (l0, true) := by
      unfold bytesR
      have h1 : bl V ≤ 8 * l0.length := by
        rw [bl_le, ← pow8, hV]; exact be_lt hb
      rw [if_neg (by omega), Int.toNat_natCast, hV, bytesOf_be hb]
    refine Ev.step (f := fun k => (nat_Bytes.f k (nm V) (l0.length : Int)).bind fun bt193 => (if bt193.2 = true then (if (strOfNums bt193.1).toList = (strOfNums l0).toList then ((apostillelaw7_known.f k).bind fun t197 => (some t197)) else (some false)) else (some false))) (fun k => ?_) ?_
    · simp only [apostillelaw7_NatBytes.j0]
      rw [if_neg (by simp), if_neg (by omega)]
    · refine Ev.bind (f := fun k (bt193 : List Int × Bool) => (if bt193.2 = true then (if (strOfNums bt193.1).toList = (strOfNums l0).toList then ((apostillelaw7_known.f k).bind fun t197 => (some t197)) else (some false)) else (some false))) (bytesN hm (l0.length : Int)) ?_
      rw [e]
      exact Ev.congr (fun k => by rw [if_pos rfl, if_pos rfl]) hk
theorem NatBytes : apostillelaw7_NatBytes.Pure := by
  intro l0 a1 _ _ hw _
  have hb : B8 l0 := fun x hx => by
    have := hw x hx
    simp [Lit.wf, IntKind.min, IntKind.max, IntKind.signed, IntKind.bits] at this
    omega
  apply Ev.rounds
  unfold apostillelaw7_NatBytes.f
  by_cases h0 : l0.length > 1100
  · exact Ev.congr (f := fun _ => some true) (fun k => by rw [if_pos (by omega)]) (Ev.now _)
  · generalize hV : (if l0.length > 1024 then 0 else be l0) = V
    have hm : (nm V).length < 140737488355328 := by
      have : V < 4294967296 ^ 256 := by
        subst hV
        by_cases h : l0.length > 1024
        · rw [if_pos h]; exact pow_pos' _
        · rw [if_neg h]
          exact Nat.lt_of_lt_of_le (be_lt hb) (p256_le _ _ (by omega))
      have := nm_len_lt this
      omega
    have e1 : Ev (fun k => nat_Of.f k l0) (nm V) := by
      have := ofN hb
      rw [← hV]
      by_cases h : l0.length > 1024
      · rw [if_pos h] at this ⊢; rwa [nm_zero]
      · rw [if_neg h] at this ⊢; exact this
    have e2 : Ev (fun k => apostilleref7_Of.f k l0) (nm V) := by
      have := refofN hb
      rw [← hV]
      by_cases h : l0.length > 1024
      · rw [if_pos h] at this ⊢; rwa [nm_zero]
      · rw [if_neg h] at this ⊢; exact this
    have ej := NatBytes_j0 hb V hV.symm hm
    refine Ev.congr (fun k => if_neg (by omega)) ?_
    refine Ev.bind (f := fun k t172 => _) e1 ?_
    refine Ev.bind (f := fun k bt175 => _) (bytesN hm a1) ?_
    refine Ev.bind (f := fun k t179 => _) e2 ?_
    refine Ev.bind (f := fun k bt182 => _) (refbytesN hm a1) ?_
    refine Ev.bind (f := fun k t186 => _) e2 ?_
    refine Ev.bind (f := fun k t189 => _) (same_self hm) ?_
    refine Ev.congr (f := fun k => (nat_Bits.f (nm V)).bind fun t190 => ((apostilleref7_Bits.f k (nm V)).bind fun t191 => (apostillelaw7_NatBytes.j0 k l0 (nm V) (t190 != t191)))) (fun k => by rw [if_pos rfl, if_pos rfl, if_neg (by simp)]) ?_
    rw [bitsN hm]
    simp only [Option.bind_some]
    refine Ev.bind (f := fun k t191 => apostillelaw7_NatBytes.j0 k l0 (nm V) ((bl V : Int) != t191)) (refbits hm) ?_
    simpa using ej
end Go.Proofs.Ytlmjbhhapllfgaa.Pure
