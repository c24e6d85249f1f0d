import Derived.Test.YtfgiihaefabblaaAx4
import Derived.Test.YtfgiihaefabblaaS9
namespace Go.Proofs.Ytfgiihaefabblaa.A
open Go.RowKit Go.Proofs.YtfgiihaefabblaaW.PrintWords Go.Proofs.YtfgiihaefabblaaW.PrintLast Go.Proofs.YtfgiihaefabblaaW.PrintMore
theorem bytes_wf {l : List Int} (h : ∀ n ∈ l, (Lit.int .u8 n).wf = true) : bytesB l = true := by
  unfold bytesB
  rw [List.all_eq_true]
  intro x hx
  have := h x hx
  simp [Lit.wf, IntKind.min, IntKind.max, IntKind.bits, IntKind.signed] at this ⊢
  omega
theorem known6 : Ev (fun k => apostillelaw6_known.f k) true := by
  have f3 : ([[97, 98, 99]] : List (List Int)).flatten = [97, 98, 99] := by simp
  have h3 := of_sha [[97, 98, 99]] (by rw [f3]; decide) (by simp)
  rw [f3] at h3
  refine Ev.bind (f := fun _ t136 => some ((strOfNums t136).toList == _)) h3 ?_
  have e : ((strOfNums (digF (padF [97, 98, 99]))).toList == ([186, 120, 22, 191, 143, 1, 207, 234, 65, 65, 64, 222, 93, 174, 34, 35, 176, 3, 97, 163, 150, 23, 122, 156, 180, 16, 255, 97, 242, 0, 21, 173] : List UInt8)) = true := by
    rw [abc]
    kernel_rfl
  rw [e]
  exact Ev.now _
theorem flat_bound (L : List (List Int)) (hs : ∀ x ∈ L, x.length ≤ 200) : L.flatten.length ≤ 200 * L.length := by
  induction L with
  | nil => simp
  | cons a l ih =>
    have h1 := hs a (by simp)
    have h2 := ih fun x hx => hs x (by simp [hx])
    simp only [List.flatten_cons, List.length_append, List.length_cons]
    omega
theorem parts_rows (L : List (List Int)) (hL : L.length ≤ 12) (hb : ∀ x ∈ L, bytesB x = true) : ∀ (d j : Nat) (acc : List Int), L.length - j = d → j ≤ L.length → acc = (L.take j).flatten → (∀ x ∈ L.take j, x.length ≤ 200) → Ev (fun k => apostillelaw6_ShaParts.l0 k L acc (j : Int)) true
  | 0, j, acc, hd, hj, ha, hs => by
    obtain rfl : j = L.length := by omega
    rw [List.take_length] at ha hs
    have hlen := flat_bound L hs
    subst ha
    have h1 := of_sha L (by omega) (by omega)
    have hbs : bytesB L.flatten = true := by
      unfold bytesB
      rw [List.all_eq_true]
      intro x hx
      obtain ⟨l, hl, hx⟩ := List.mem_flatten.1 hx
      exact List.all_eq_true.1 (hb l hl) x hx
    have h2 := of_ref L.flatten (by omega) hbs
    have f1 : ([L.flatten] : List (List Int)).flatten = L.flatten := by simp
    have h3 := of_sha [L.flatten] (by rw [f1]; omega) (by simp)
    rw [f1] at h3
    refine Ev.step (f := fun k => ((sha_Of.f k L).bind fun t144 => ((apostilleref6_Of.f k L.flatten).bind fun t147 => (if (strOfNums t144).toList = (strOfNums t147).toList then ((sha_Of.f k (([L.flatten] : List (List Int)))).bind fun t153 => ((sha_Of.f k L).bind fun t156 => (if (strOfNums t153).toList = (strOfNums t156).toList then ((apostillelaw6_known.f k).bind fun t159 => (some t159)) else (some false)))) else (some false))))) (fun k => ?_) ?_
    · simp only [apostillelaw6_ShaParts.l0]
      rw [if_neg (by omega)]
    · refine Ev.bind h1 (Ev.bind h2 ?_)
      simp only [if_true]
      refine Ev.bind h3 (Ev.bind h1 ?_)
      simp only [if_true]
      exact Ev.bind (f := fun _ t => some t) known6 (Ev.now _)
  | d + 1, j, acc, hd, hj, ha, hs => by
    have hlt : j < L.length := by omega
    have hr : rd_L1 L (j : Int) = L[j] := by
      unfold rd_L1
      rw [Int.toNat_natCast, List.getD_eq_getElem?_getD, List.getElem?_eq_getElem hlt]
      rfl
    have hbd := flat_bound (L.take j) hs
    rw [← ha, List.length_take] at hbd
    by_cases hg : (L[j]).length > 200
    · refine Ev.step (f := fun _ => some true) (fun k => ?_) (Ev.now _)
      simp only [apostillelaw6_ShaParts.l0]
      rw [if_pos (by omega), if_pos (by omega), hr, if_pos (by omega)]
    · have e1 : (L.take (j + 1)).flatten = acc ++ L[j] := by
        rw [List.take_succ_eq_append_getElem hlt, List.flatten_append, ha]
        simp
      have h1 := parts_rows L hL hb d (j + 1) (acc ++ L[j]) (by omega) (by omega) e1.symm (by
        intro x hx
        rw [List.take_succ_eq_append_getElem hlt] at hx
        rcases List.mem_append.1 hx with hx | hx
        · exact hs x hx
        · obtain rfl := List.mem_singleton.1 hx
          omega)
      refine Ev.step (fun k => ?_) h1
      simp only [apostillelaw6_ShaParts.l0]
      have hw : wrap64 ((j : Int) + 1) = ((j + 1 : Nat) : Int) := by unfold wrap64; omega
      rw [if_pos (by omega), if_pos (by omega), hr, if_neg (by omega), if_pos (by omega), hw]
theorem parts_all (L : List (List Int)) (hb : ∀ x ∈ L, bytesB x = true) : ∃ k, apostillelaw6_ShaParts.f k L = some true := by
  by_cases h : (L.length : Int) > 12
  · exact ⟨0, by unfold apostillelaw6_ShaParts.f; rw [if_pos h]⟩
  · obtain ⟨k, hk⟩ := (parts_rows L (by omega) hb L.length 0 [] rfl (Nat.zero_le _) rfl (by simp)).rounds
    exact ⟨k, by unfold apostillelaw6_ShaParts.f; rw [if_neg h]; exact hk⟩
end Go.Proofs.Ytfgiihaefabblaa.A
