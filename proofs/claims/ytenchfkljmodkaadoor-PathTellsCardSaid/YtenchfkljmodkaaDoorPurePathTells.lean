/- Any text: is it a path? Any texts: may they be together? -/
import Derived.Test.YtenchfkljmodkaaDoorAx8
import Derived.Test.YtenchfkljmodkaaDoorPurePathJoins
namespace Go.Proofs.YtenchfkljmodkaaDoor.Pure
open Go.RowKit Go.Proofs.YtenchfkljmodkaaDoor.A Go.Proofs.YtenchfkljmodkaaDoor.V Go.Proofs.YtenchfkljmodkaaDoorW.PrintWords Go.Proofs.YtenchfkljmodkaaDoorW.PrintLast
set_option linter.unusedVariables false
set_option linter.unusedSimpArgs false

theorem PathTells_off (x : ByteArray) (l : List ByteArray) : Ev (fun k => apostillelaw21_PathTells.j0 k x l true) true := by
  refine Ev.step (f := fun _ => some true) (fun k => ?_) (Ev.now _)
  rw [apostillelaw21_PathTells.j0, if_pos rfl]
theorem PathTells_on (x : ByteArray) (l : List ByteArray) (hl : l.length ≤ 20) : Ev (fun k => apostillelaw21_PathTells.j0 k x l false) true := by
  have e1 := isV x
  have e2 := refisAll x
  have e3 := allA l (by omega)
  have e4 := refallA l (by omega)
  generalize isL (dat x) = u at *
  generalize allL (l.map dat) = v at *
  refine Ev.step (f := fun k => _) (fun k => by rw [apostillelaw21_PathTells.j0, if_neg Bool.false_ne_true]) ?_
  refine Ev.bind (a := u) (f := fun k t153 => _) e1 ?_
  refine Ev.bind (a := u) (f := fun k t154 => _) e2 ?_
  refine Ev.congr (fun k => if_pos (by simp)) ?_
  refine Ev.bind (a := v) (f := fun k t155 => _) e3 ?_
  refine Ev.bind (a := v) (f := fun k t156 => _) e4 ?_
  refine Ev.congr (fun k => if_pos (by simp)) ?_
  exact pknown1
theorem PathTells (x : ByteArray) (l : List ByteArray) : ∃ k, apostillelaw21_PathTells.f k x l = some true := by
  refine Ev.rounds ?_
  unfold apostillelaw21_PathTells.f
  by_cases h : (x.size : Int) > 100
  · exact Ev.congr (fun k => if_pos h) (PathTells_off x l)
  · refine Ev.congr (fun k => if_neg h) ?_
    by_cases h2 : (l.length : Int) > 20
    · rw [decide_eq_true h2]; exact PathTells_off x l
    · rw [decide_eq_false h2]; exact PathTells_on x l (by omega)
end Go.Proofs.YtenchfkljmodkaaDoor.Pure
