/- Texts that are no path, by hand. -/
import Derived.Test.YtenchfkljmodkaaDoorAx10
import Derived.Test.YtenchfkljmodkaaDoorPathA
namespace Go.Proofs.YtenchfkljmodkaaDoor.Pure
open Go.RowKit Go.Proofs.YtenchfkljmodkaaDoor.A Go.Proofs.YtenchfkljmodkaaDoor.V Go.Proofs.YtenchfkljmodkaaDoorW.PrintWords Go.Proofs.YtenchfkljmodkaaDoorW.PrintLast
set_option linter.unusedVariables false
set_option linter.unusedSimpArgs false

def oddOnes : List ByteArray := [(⟨#[]⟩ : ByteArray), (⟨#[47]⟩ : ByteArray), (⟨#[97, 47]⟩ : ByteArray), (⟨#[47, 97]⟩ : ByteArray), (⟨#[97, 47, 47, 98]⟩ : ByteArray), (⟨#[46]⟩ : ByteArray), (⟨#[46, 46]⟩ : ByteArray), (⟨#[97, 47, 46]⟩ : ByteArray), (⟨#[97, 47, 46, 46]⟩ : ByteArray), (⟨#[65]⟩ : ByteArray), (⟨#[97, 32, 98]⟩ : ByteArray), (⟨#[97, 92, 98]⟩ : ByteArray), (⟨#[195, 169]⟩ : ByteArray), (⟨#[97, 98, 99, 100, 101, 102, 103, 104, 105, 106, 107, 108, 109, 110, 111, 112, 113, 114, 115, 116, 117]⟩ : ByteArray), (⟨#[97, 47, 98, 47, 99, 47, 100, 47, 101, 47, 102, 47, 103, 47, 104, 47, 105, 47, 106, 47, 107, 47, 108, 47, 109, 47, 110, 47, 111, 47, 112, 47, 113]⟩ : ByteArray), (⟨#[97, 0]⟩ : ByteArray)]
theorem odd_all : oddOnes.all (fun s => !isL (dat s) && decide (s.size < 1000)) = true := by decide +kernel
theorem odd_at (x : ByteArray) (h : x ∈ oddOnes) : isL (dat x) = false ∧ x.size < 1000 := by
  have := List.all_eq_true.mp odd_all x h
  simpa using this
theorem one_all (a : List UInt8) : allL [a] = isL a := by simp [allL, outA, inn]
theorem PathKnown_on (n : Nat) (hn : n < oddOnes.length) : Ev (fun k => apostillelaw21_PathKnown.j0 k (n : Int) oddOnes false) true := by
  obtain ⟨h1, h2⟩ := odd_at oddOnes[n] (List.getElem_mem hn)
  have hr : rdOf ByteArray.empty oddOnes (n : Int) = oddOnes[n] := rdo oddOnes n hn
  have cn : (n : Int) < (oddOnes.length : Int) := Int.ofNat_lt.mpr hn
  have e1 := isV' oddOnes[n] false h1
  have e2 := allV' [oddOnes[n]] false (by simp) (mem1 (by omega)) (by show allL [dat oddOnes[n]] = false; rw [one_all]; exact h1)
  have e3 := allV' [] true (by simp) (by simp) (by decide)
  refine Ev.step (f := fun k => _) (fun k => by
    rw [apostillelaw21_PathKnown.j0, if_neg Bool.false_ne_true, if_pos (Int.natCast_nonneg n), if_pos cn, hr]) ?_
  refine Ev.bind (a := false) (f := fun k t206 => _) e1 ?_
  refine Ev.congr (fun k => if_neg (by decide)) ?_
  refine Ev.bind (a := false) (f := fun k t211 => _) e2 ?_
  refine Ev.congr (fun k => if_neg (by decide)) ?_
  refine Ev.bind (a := true) (f := fun k t212 => _) e3 ?_
  refine Ev.congr (fun k => if_pos rfl) ?_
  refine Ev.bind (a := true) (f := fun k t213 => _) (isV' _ _ (by decide)) ?_
  refine Ev.congr (fun k => if_pos rfl) ?_
  refine Ev.bind (a := true) (f := fun k t214 => _) (isV' _ _ (by decide +kernel)) ?_
  refine Ev.congr (fun k => if_pos rfl) ?_
  exact pknown1
theorem PathKnown_off (n : Int) (l : List ByteArray) : Ev (fun k => apostillelaw21_PathKnown.j0 k n l true) true := by
  refine Ev.step (f := fun _ => some true) (fun k => ?_) (Ev.now _)
  rw [apostillelaw21_PathKnown.j0, if_pos rfl]
theorem PathKnown : apostillelaw21_PathKnown.Pure := by
  intro a _
  refine Ev.rounds ?_
  unfold apostillelaw21_PathKnown.f
  refine Ev.congr (f := fun k => if a < 0 then (apostillelaw21_PathKnown.j0 k a oddOnes true) else (apostillelaw21_PathKnown.j0 k a oddOnes (decide (a ≥ (oddOnes.length : Int))))) (fun k => by rw [Option.bind_some]; rfl) ?_
  by_cases h : a < 0
  · exact Ev.congr (fun k => if_pos h) (PathKnown_off a oddOnes)
  · refine Ev.congr (fun k => if_neg h) ?_
    obtain ⟨n, rfl⟩ := Int.eq_ofNat_of_zero_le (show 0 ≤ a by omega)
    by_cases h2 : n < oddOnes.length
    · rw [decide_eq_false (by omega)]
      exact PathKnown_on n h2
    · rw [decide_eq_true (by omega)]
      exact PathKnown_off _ oddOnes
end Go.Proofs.YtenchfkljmodkaaDoor.Pure
