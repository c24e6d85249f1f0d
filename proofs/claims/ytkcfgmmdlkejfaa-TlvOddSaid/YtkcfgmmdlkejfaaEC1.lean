/- What some functions of the library come to: bytes.Clone. Conditions: none. -/
import Derived.Test.YtkcfgmmdlkejfaaEI0
import Derived.Test.YtkcfgmmdlkejfaaProg
import Derived.KernelRfl
import Derived.Laws.Cover3
namespace Go.Proofs.Ytkcfgmmdlkejfaa.Eng
open Go
set_option maxRecDepth 100000
theorem mixed : Go.Proofs.Try.prog.follows .mixedOrders = true := by kernel_rfl
theorem row_val {S : Nat → Nat} {w : World} {k : IntKind} {l : List Int} {v : Value} (h : RepD S w (.ints k l) v) : ∃ a c, v = .slice a l.length c ∧ (a = none → l = []) := by
  cases h with
  | ints0 => exact ⟨_, _, rfl, fun _ => rfl⟩
  | ints => exact ⟨_, _, rfl, fun h => by cases h⟩
theorem bclone_fn : Go.Proofs.Try.prog.funcs[36]? = some Go.Proofs.Try.f36 := by kernel_rfl
theorem bclone_ok (l : List Int) (hl : leN (l.length * 1) 140737488355328 = true) : CallOK Go.Proofs.Try.prog 36 [.c (.d (.ints .u8 l))] [] (.c (.own 0 (.ints .u8 l)), []) := by
  refine enter_ok (XY_ok Go.Proofs.Try.prog 8) bclone_fn rfl rfl rfl (Nat.le_of_ble_eq_true rfl) (Nat.le_of_ble_eq_true rfl) fun E g a w hn hdf hT hr Q hQ => ?_
  have hnX : E.n = (XY Go.Proofs.Try.prog 8).n := hn
  have hI : Inv (XY Go.Proofs.Try.prog 8) E E := Inv.refl hnX (Nat.le_trans hT.top (Nat.mul_le_mul_right _ (by omega))) hdf
  refine wpIn_seq (region_okIn (R := St) (XY_ok _ 8) hnX mixed (K := some) hr (by rfl) ?_ (by rfl))
  intro s1 a1 w1 g1 hs1 hr1
  obtain rfl := Option.some.inj hs1
  refine wpIn_seq (wpIn_seq (wpIn_region_list ?_))
  refine steps_part (XY_ok _ 8) hnX (l := [_]) (rest := [_]) ?_ hr1 (by rfl) ?_
  · intro o ho
    obtain rfl := List.mem_singleton.1 ho
    rfl
  intro a2 w2 g2 hr2
  refine list_one (by rfl) ?_
  have h3 : RepD g2.S w2 (.ints .u8 l) (a2.eval (.tmp 3)) := evC_ok hr2 (x := .tmp 3) (c := .d (.ints .u8 l)) (by rfl)
  obtain ⟨ad, cc, hv, hnil⟩ := row_val h3
  refine op_FW (by rfl) (fun _ _ h => h) (wp_value (v := .bool ad.isNone) (w' := w2) ?_ ?_)
  · have := run_equal_slice_nil (P := Go.Proofs.Try.prog) w2 22 5 ad l.length cc (by kernel_rfl)
    have hg := eqGuard_ok (P := Go.Proofs.Try.prog) (w := w2) (op := .eql) (T := 22) (x := .tmp 3) (y := .const (.slice none 0 0)) (u := .slice ad l.length cc) (v := .slice none 0 0) rfl (by simp)
    have hc : a2.eval (.const (.slice none 0 0)) = .slice none 0 0 := rfl
    simp [execOp, hv, hg, hc, binOp, this]
  have hr3 := hr2.put (some 4) (by rw [hn]; rfl) (r := .bool ad.isNone) (v := .bool ad.isNone) ⟨_, rfl, .bool _⟩
  refine wpIn_cond (t := ad.isNone) (evB_ok hr3 (by rfl)) ?_
  cases ad with
  | none =>
    obtain rfl := hnil rfl
    refine wpIn_seq (region_okIn (R := St) (XY_ok _ 8) hnX mixed (K := some) hr3 (by rfl) ?_ (by rfl))
    intro s4 a4 w4 g4 hs4 hr4
    obtain rfl := Option.some.inj hs4
    exact wpIn_ret (hQ .ret _ _ _ _ _ (by kernel_rfl) hr4 hI)
  | some ad =>
    refine wpIn_skip ?_
    change Code.wpIn _ _ _ (Code.seq _ _) _ _ _
    refine wpIn_seq (region_okIn (R := St) (XY_ok _ 8) hnX mixed (K := some) hr3 (by rfl) ?_ (by
      show (bif leN ((0 + l.length) * 1) 140737488355328 then _ else none) = some _
      rw [Nat.zero_add, hl]; rfl))
    intro s4 a4 w4 g4 hs4 hr4
    obtain rfl := Option.some.inj hs4
    exact wpIn_ret (hQ .ret _ _ _ _ _ (by kernel_rfl) hr4 hI)
end Go.Proofs.Ytkcfgmmdlkejfaa.Eng
