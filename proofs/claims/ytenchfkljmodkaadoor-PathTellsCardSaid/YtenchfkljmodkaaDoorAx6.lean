-- a text of this claim
import Derived.Test.YtenchfkljmodkaaDoorAx5
import Derived.Test.YtenchfkljmodkaaDoorAx0
namespace Go.Proofs.YtenchfkljmodkaaDoor.A
open Go.RowKit Go.Proofs.YtenchfkljmodkaaDoorW.PrintWords Go.Proofs.YtenchfkljmodkaaDoorW.PrintLast Go.Proofs.YtenchfkljmodkaaDoorW.PrintMore
attribute [local go_sem] max2_int min2_int max_two min_two max_three min_three max_four min_four   -- for this text's walks alone
set_option linter.unusedVariables false
set_option linter.unusedSimpArgs false

/-! ### apostilleref21_All: function 10 -/
mutual
def apostilleref21_All.l0 : Nat → List ByteArray → Int → Option (Bool)
  | 0, _, _ => none
  | k + 1, x0, x3 => if x3 < (x0.length : Int) then (if 0 ≤ x3 then ((apostilleref21_Is.f k (rdOf ByteArray.empty x0 x3)).bind fun t138 => (if t138 = true then (apostilleref21_All.l1 k x0 x3 0) else (some false))) else (none)) else (some true)
def apostilleref21_All.l1 : Nat → List ByteArray → Int → Int → Option (Bool)
  | 0, _, _, _ => none
  | k + 1, x0, x3, x4 => if x4 < (x0.length : Int) then (if 0 ≤ x3 then (if x3 < (x0.length : Int) then (if 0 ≤ x4 then (if x4 = x3 then (apostilleref21_All.l1 k x0 x3 (wrap64 (x4 + 1))) else (if (rdOf ByteArray.empty x0 x3).toList = (rdOf ByteArray.empty x0 x4).toList then (some false) else (if ((rdOf ByteArray.empty x0 x4).size : Int) > ((rdOf ByteArray.empty x0 x3).size : Int) then (if 0 ≤ ((rdOf ByteArray.empty x0 x3).size : Int) then (if ((rdOf ByteArray.empty x0 x3).size : Int) ≤ ((rdOf ByteArray.empty x0 x4).size : Int) then (if ((rdOf ByteArray.empty x0 x4).extract 0 (((rdOf ByteArray.empty x0 x3).size : Int) : Int).toNat).toList = (rdOf ByteArray.empty x0 x3).toList then (if ((rdOf ByteArray.empty x0 x3).size : Int) < ((rdOf ByteArray.empty x0 x4).size : Int) then (if (bt (rdOf ByteArray.empty x0 x4) ((rdOf ByteArray.empty x0 x3).size : Int)) = 47 then (some false) else (apostilleref21_All.l1 k x0 x3 (wrap64 (x4 + 1)))) else (none)) else (apostilleref21_All.l1 k x0 x3 (wrap64 (x4 + 1)))) else (none)) else (none)) else (apostilleref21_All.l1 k x0 x3 (wrap64 (x4 + 1)))))) else (none)) else (none)) else (none)) else (apostilleref21_All.l0 k x0 (wrap64 (x3 + 1)))
end
def apostilleref21_All.f (k : Nat) (l0 : List ByteArray) : Option (Bool) := apostilleref21_All.l0 k l0 0
set_option maxHeartbeats 8000000 in
set_option maxRecDepth 100000 in
theorem apostilleref21_All.calls (k : Nat) (A0 : Option Addr) (c0 : Nat) (l0 : List ByteArray) (r : Bool) (w : World) (hr0 : Kd.C Kd.string w A0 l0.length l0) (hc0 : l0.length ≤ c0) (h : apostilleref21_All.f k l0 = some r) :
    Calls Tryd.prog 10 #[.slice A0 l0.length c0] w fun e w' => e = .returned (.bool r) ∧ Drawn0 w w' := by
  have HR0 := zm hr0
  have HC0 := zm hc0
  clear hr0 hc0
  have H : (apostilleref21_All.l0 k l0 0) = some r := h
  clear h
  have H' := zm H
  clear H
  go_enter Tryd.func10, Tryd.ntmps10
  go_wp2
  repeat (go_quiet (fail); try go_wp2)
  go_loopg [3] k (fun kq v3 w' => ∃ (x3_1 : Int), v3 = .int .i64 x3_1 ∧ Aside0 (apostilleref21_All.l0 kq l0 x3_1 = some r) ∧ Aside0 (kq ≤ k) ∧ Drawn0 w w')
  case atStart => exact ⟨(0), (by first | rfl | (simp; done) | (simp [*]; done)), H', ⟨Nat.le_refl _⟩, by repeat (first | exact Drawn0.refl _ | apply Drawn0.step)⟩
  case round =>
    clear H'
    try clear c1
    obtain ⟨x3_1, rfl, HA, HK1, ⟨m1, rfl⟩⟩ := hrel
    cases gk with
    | zero => exact absurd HA.out (by simp [apostilleref21_All.l0])
    | succ k1 =>
      have H := HA.out
      clear HA
      simp only [apostilleref21_All.l0] at H
      by_cases c2 : x3_1 < (l0.length : Int)
      · rw [if_pos c2] at H
        have c2b0 : decide (x3_1 < (l0.length : Int)) = true := decide_eq_true c2
        clear c2
        by_cases c3 : 0 ≤ x3_1
        · rw [if_pos c3] at H
          have c3b0 : decide (0 ≤ x3_1) = true := decide_eq_true c3
          clear c3
          replace H := Option.bind_eq_some_iff.mp H
          obtain ⟨t138, A40, H⟩ := H
          replace H : (if t138 = true then (apostilleref21_All.l1 k1 l0 x3_1 0) else (some false)) = some r := H
          have A4 := zm A40
          clear A40
          by_cases c5 : t138 = true
          · subst c5
            have H1 : (apostilleref21_All.l1 k1 l0 x3_1 0) = some r := by rw [if_pos rfl] at H; exact H
            clear H
            have H := H1
            clear H1
            have H' := zm H
            clear H
            have p137 : 0 ≤ (x3_1 : Int) := of_decide_eq_true (by first | (with_reducible assumption) | assumption)
            have q137 : x3_1 < (l0.length : Int) := of_decide_eq_true (by first | (with_reducible assumption) | assumption)
            obtain ⟨ad137, e137, hx137_0⟩ := Kd.at_string HR0.out x3_1 p137 q137
            cases e137
            replace p137 := eq_true p137
            replace q137 := eq_true q137
            go_wp2_with (first | (go_at_call 8; (with_reducible refine (apostilleref21_Is.calls k1 (rdOf ByteArray.empty l0 x3_1) true _ A4.out).mono ?_); rintro e w' ⟨rfl, ⟨nd, rfl⟩⟩; (try first | exact ⟨rfl, _, World.drewN_drewN _ _ _⟩ | exact ⟨rfl, _, Eq.trans (World.drewN_drewN _ _ _) (congrArg (World.drewN _) (Nat.add_assoc _ _ _))⟩); (try clear A4)))
            repeat (go_quiet (first | (go_at_call 8; (with_reducible refine (apostilleref21_Is.calls k1 (rdOf ByteArray.empty l0 x3_1) true _ A4.out).mono ?_); rintro e w' ⟨rfl, ⟨nd, rfl⟩⟩; (try first | exact ⟨rfl, _, World.drewN_drewN _ _ _⟩ | exact ⟨rfl, _, Eq.trans (World.drewN_drewN _ _ _) (congrArg (World.drewN _) (Nat.add_assoc _ _ _))⟩); (try clear A4))); try go_wp2_with (first | (go_at_call 8; (with_reducible refine (apostilleref21_Is.calls k1 (rdOf ByteArray.empty l0 x3_1) true _ A4.out).mono ?_); rintro e w' ⟨rfl, ⟨nd, rfl⟩⟩; (try first | exact ⟨rfl, _, World.drewN_drewN _ _ _⟩ | exact ⟨rfl, _, Eq.trans (World.drewN_drewN _ _ _) (congrArg (World.drewN _) (Nat.add_assoc _ _ _))⟩); (try clear A4))))
            go_loopg [4] k1 (fun kq v4 w' => ∃ (x4_2 : Int), v4 = .int .i64 x4_2 ∧ Aside0 (apostilleref21_All.l1 kq l0 x3_1 x4_2 = some r) ∧ Aside0 (kq ≤ k1) ∧ Drawn0 w w')
            case atStart => exact ⟨(0), (by first | rfl | (simp; done) | (simp [*]; done)), H', ⟨Nat.le_refl _⟩, by repeat (first | exact Drawn0.refl _ | apply Drawn0.step)⟩
            case round =>
              clear H'
              try clear c1
              try clear p1
              try clear q1
              try clear hx1
              try clear c2
              try clear c2b0
              try clear p2
              try clear c3
              try clear c3b0
              try clear c5
              try clear hx137_0
              try clear p137
              try clear q137
              obtain ⟨x4_2, rfl, HA, HK2, ⟨m2, rfl⟩⟩ := hrel
              cases gk with
              | zero => exact absurd HA.out (by simp [apostilleref21_All.l1])
              | succ k2 =>
                have H := HA.out
                clear HA
                simp only [apostilleref21_All.l1] at H
                by_cases c6 : x4_2 < (l0.length : Int)
                · rw [if_pos c6] at H
                  have c6b0 : decide (x4_2 < (l0.length : Int)) = true := decide_eq_true c6
                  clear c6
                  by_cases c7 : 0 ≤ x3_1
                  · rw [if_pos c7] at H
                    have c7b0 : decide (0 ≤ x3_1) = true := decide_eq_true c7
                    clear c7
                    by_cases c8 : x3_1 < (l0.length : Int)
                    · rw [if_pos c8] at H
                      have c8b0 : decide (x3_1 < (l0.length : Int)) = true := decide_eq_true c8
                      clear c8
                      by_cases c9 : 0 ≤ x4_2
                      · rw [if_pos c9] at H
                        have c9b0 : decide (0 ≤ x4_2) = true := decide_eq_true c9
                        clear c9
                        by_cases c10 : x4_2 = x3_1
                        · rw [if_pos c10] at H
                          have c10b0 : (x4_2 == x3_1) = true := beq_iff_eq.mpr c10
                          have c10b1 : (x4_2 != x3_1) = false := bne_eq_false_iff_eq.mpr c10
                          clear c10
                          have H' := zm H
                          clear H
                          have p139 : 0 ≤ (x3_1 : Int) := of_decide_eq_true (by first | (with_reducible assumption) | assumption)
                          have q139 : x3_1 < (l0.length : Int) := of_decide_eq_true (by first | (with_reducible assumption) | assumption)
                          obtain ⟨ad139, e139, hx139_0⟩ := Kd.at_string HR0.out x3_1 p139 q139
                          obtain rfl : ad137 = ad139 := (by injection e139)
                          replace p139 := eq_true p139
                          replace q139 := eq_true q139
                          have p140 : 0 ≤ (x4_2 : Int) := of_decide_eq_true (by first | (with_reducible assumption) | assumption)
                          have q140 : x4_2 < (l0.length : Int) := of_decide_eq_true (by first | (with_reducible assumption) | assumption)
                          obtain ⟨ad140, e140, hx140_0⟩ := Kd.at_string HR0.out x4_2 p140 q140
                          obtain rfl : ad137 = ad140 := (by injection e140)
                          replace p140 := eq_true p140
                          replace q140 := eq_true q140
                          go_wp2
                          repeat (go_quiet (fail); try go_wp2)
                          go_roundg k2
                          case measure => have := HK1.out; have := HK2.out; omega
                          case rel => exact ⟨(wrap64 (x4_2 + 1)), (by first | rfl | (simp; done) | (simp [*]; done)), H', ⟨by have := HK1.out; have := HK2.out; omega⟩, by repeat (first | exact Drawn0.refl _ | apply Drawn0.step)⟩
                        · rw [if_neg c10] at H
                          have c10b0 : (x4_2 == x3_1) = false := beq_eq_false_iff_ne.mpr c10
                          have c10b1 : (x4_2 != x3_1) = true := bne_iff_ne.mpr c10
                          by_cases c11 : (rdOf ByteArray.empty l0 x3_1).toList = (rdOf ByteArray.empty l0 x4_2).toList
                          · rw [if_pos c11] at H
                            have c11b0 : ((rdOf ByteArray.empty l0 x3_1).toList == (rdOf ByteArray.empty l0 x4_2).toList) = true := beq_iff_eq.mpr c11
                            have c11b1 : ((rdOf ByteArray.empty l0 x3_1).toList != (rdOf ByteArray.empty l0 x4_2).toList) = false := bne_eq_false_iff_eq.mpr c11
                            clear c11
                            obtain rfl := Option.some.inj H
                            have p139 : 0 ≤ (x3_1 : Int) := of_decide_eq_true (by first | (with_reducible assumption) | assumption)
                            have q139 : x3_1 < (l0.length : Int) := of_decide_eq_true (by first | (with_reducible assumption) | assumption)
                            obtain ⟨ad139, e139, hx139_0⟩ := Kd.at_string HR0.out x3_1 p139 q139
                            obtain rfl : ad137 = ad139 := (by injection e139)
                            replace p139 := eq_true p139
                            replace q139 := eq_true q139
                            have p140 : 0 ≤ (x4_2 : Int) := of_decide_eq_true (by first | (with_reducible assumption) | assumption)
                            have q140 : x4_2 < (l0.length : Int) := of_decide_eq_true (by first | (with_reducible assumption) | assumption)
                            obtain ⟨ad140, e140, hx140_0⟩ := Kd.at_string HR0.out x4_2 p140 q140
                            obtain rfl : ad137 = ad140 := (by injection e140)
                            replace p140 := eq_true p140
                            replace q140 := eq_true q140
                            go_wp2
                            repeat (go_quiet (fail); try go_wp2)
                            go_ret
                            exact ⟨by first | rfl | (simp; done) | (simp [*]; done), by repeat (first | exact Drawn0.refl _ | apply Drawn0.step)⟩
                          · rw [if_neg c11] at H
                            have c11b0 : ((rdOf ByteArray.empty l0 x3_1).toList == (rdOf ByteArray.empty l0 x4_2).toList) = false := beq_eq_false_iff_ne.mpr c11
                            have c11b1 : ((rdOf ByteArray.empty l0 x3_1).toList != (rdOf ByteArray.empty l0 x4_2).toList) = true := bne_iff_ne.mpr c11
                            by_cases c12 : ((rdOf ByteArray.empty l0 x4_2).size : Int) > ((rdOf ByteArray.empty l0 x3_1).size : Int)
                            · rw [if_pos c12] at H
                              have c12b0 : decide (((rdOf ByteArray.empty l0 x3_1).size : Int) < ((rdOf ByteArray.empty l0 x4_2).size : Int)) = true := decide_eq_true c12
                              have c12b1 : decide ((rdOf ByteArray.empty l0 x3_1).size < (rdOf ByteArray.empty l0 x4_2).size) = true := decide_eq_true (Int.ofNat_lt.mp c12)
                              clear c12
                              by_cases c13 : 0 ≤ ((rdOf ByteArray.empty l0 x3_1).size : Int)
                              · rw [if_pos c13] at H
                                have c13b0 := eq_true c13
                                have c13b1 : decide (0 ≤ ((rdOf ByteArray.empty l0 x3_1).size : Int)) = true := decide_eq_true c13
                                clear c13
                                by_cases c14 : ((rdOf ByteArray.empty l0 x3_1).size : Int) ≤ ((rdOf ByteArray.empty l0 x4_2).size : Int)
                                · rw [if_pos c14] at H
                                  have c14b0 := eq_true c14
                                  have c14b1 : decide (((rdOf ByteArray.empty l0 x3_1).size : Int) ≤ ((rdOf ByteArray.empty l0 x4_2).size : Int)) = true := decide_eq_true c14
                                  clear c14
                                  by_cases c15 : ((rdOf ByteArray.empty l0 x4_2).extract 0 (((rdOf ByteArray.empty l0 x3_1).size : Int) : Int).toNat).toList = (rdOf ByteArray.empty l0 x3_1).toList
                                  · rw [if_pos c15] at H
                                    have c15b0 : (((rdOf ByteArray.empty l0 x4_2).extract 0 (((rdOf ByteArray.empty l0 x3_1).size : Int) : Int).toNat).toList == (rdOf ByteArray.empty l0 x3_1).toList) = true := beq_iff_eq.mpr c15
                                    have c15n0 := c15b0
                                    simp only [Int.toNat_natCast] at c15n0
                                    have c15b1 : (((rdOf ByteArray.empty l0 x4_2).extract 0 (((rdOf ByteArray.empty l0 x3_1).size : Int) : Int).toNat).toList != (rdOf ByteArray.empty l0 x3_1).toList) = false := bne_eq_false_iff_eq.mpr c15
                                    have c15n1 := c15b1
                                    simp only [Int.toNat_natCast] at c15n1
                                    clear c15
                                    by_cases c16 : ((rdOf ByteArray.empty l0 x3_1).size : Int) < ((rdOf ByteArray.empty l0 x4_2).size : Int)
                                    · rw [if_pos c16] at H
                                      have c16b0 : decide (((rdOf ByteArray.empty l0 x3_1).size : Int) < ((rdOf ByteArray.empty l0 x4_2).size : Int)) = true := decide_eq_true c16
                                      have c16b1 : decide ((rdOf ByteArray.empty l0 x3_1).size < (rdOf ByteArray.empty l0 x4_2).size) = true := decide_eq_true (Int.ofNat_lt.mp c16)
                                      clear c16
                                      by_cases c18 : (bt (rdOf ByteArray.empty l0 x4_2) ((rdOf ByteArray.empty l0 x3_1).size : Int)) = 47
                                      · rw [if_pos c18] at H
                                        have c18b0 : ((bt (rdOf ByteArray.empty l0 x4_2) ((rdOf ByteArray.empty l0 x3_1).size : Int)) == 47) = true := beq_iff_eq.mpr c18
                                        have hbn18 : ∀ h : (rdOf ByteArray.empty l0 x3_1).size < (rdOf ByteArray.empty l0 x4_2).size, ((((rdOf ByteArray.empty l0 x4_2))[(rdOf ByteArray.empty l0 x3_1).size]'h).toNat : Int) = bt (rdOf ByteArray.empty l0 x4_2) ((rdOf ByteArray.empty l0 x3_1).size : Int) := fun h => bt_at (rdOf ByteArray.empty l0 x4_2) ((rdOf ByteArray.empty l0 x3_1).size : Int) h
                                        have c18b1 : ((bt (rdOf ByteArray.empty l0 x4_2) ((rdOf ByteArray.empty l0 x3_1).size : Int)) != 47) = false := bne_eq_false_iff_eq.mpr c18
                                        clear c18
                                        obtain rfl := Option.some.inj H
                                        have p139 : 0 ≤ (x3_1 : Int) := of_decide_eq_true (by first | (with_reducible assumption) | assumption)
                                        have q139 : x3_1 < (l0.length : Int) := of_decide_eq_true (by first | (with_reducible assumption) | assumption)
                                        obtain ⟨ad139, e139, hx139_0⟩ := Kd.at_string HR0.out x3_1 p139 q139
                                        obtain rfl : ad137 = ad139 := (by injection e139)
                                        replace p139 := eq_true p139
                                        replace q139 := eq_true q139
                                        have p140 : 0 ≤ (x4_2 : Int) := of_decide_eq_true (by first | (with_reducible assumption) | assumption)
                                        have q140 : x4_2 < (l0.length : Int) := of_decide_eq_true (by first | (with_reducible assumption) | assumption)
                                        obtain ⟨ad140, e140, hx140_0⟩ := Kd.at_string HR0.out x4_2 p140 q140
                                        obtain rfl : ad137 = ad140 := (by injection e140)
                                        replace p140 := eq_true p140
                                        replace q140 := eq_true q140
                                        have p17 : 0 ≤ (((rdOf ByteArray.empty l0 x3_1).size : Int) : Int) := of_decide_eq_true (by first | (with_reducible assumption) | assumption)
                                        have q17 : ((rdOf ByteArray.empty l0 x3_1).size : Int) < ((rdOf ByteArray.empty l0 x4_2).size : Int) := of_decide_eq_true (by first | (with_reducible assumption) | assumption)
                                        have hx17 := bt_at (rdOf ByteArray.empty l0 x4_2) ((rdOf ByteArray.empty l0 x3_1).size : Int)
                                        replace p17 := eq_true p17
                                        replace q17 := eq_true q17
                                        go_wp2
                                        repeat (go_quiet (fail); try go_wp2)
                                        go_ret
                                        exact ⟨by first | rfl | (simp; done) | (simp [*]; done), by repeat (first | exact Drawn0.refl _ | apply Drawn0.step)⟩
                                      · rw [if_neg c18] at H
                                        have c18b0 : ((bt (rdOf ByteArray.empty l0 x4_2) ((rdOf ByteArray.empty l0 x3_1).size : Int)) == 47) = false := beq_eq_false_iff_ne.mpr c18
                                        have hbn18 : ∀ h : (rdOf ByteArray.empty l0 x3_1).size < (rdOf ByteArray.empty l0 x4_2).size, ((((rdOf ByteArray.empty l0 x4_2))[(rdOf ByteArray.empty l0 x3_1).size]'h).toNat : Int) = bt (rdOf ByteArray.empty l0 x4_2) ((rdOf ByteArray.empty l0 x3_1).size : Int) := fun h => bt_at (rdOf ByteArray.empty l0 x4_2) ((rdOf ByteArray.empty l0 x3_1).size : Int) h
                                        have c18b1 : ((bt (rdOf ByteArray.empty l0 x4_2) ((rdOf ByteArray.empty l0 x3_1).size : Int)) != 47) = true := bne_iff_ne.mpr c18
                                        have H' := zm H
                                        clear H
                                        have p139 : 0 ≤ (x3_1 : Int) := of_decide_eq_true (by first | (with_reducible assumption) | assumption)
                                        have q139 : x3_1 < (l0.length : Int) := of_decide_eq_true (by first | (with_reducible assumption) | assumption)
                                        obtain ⟨ad139, e139, hx139_0⟩ := Kd.at_string HR0.out x3_1 p139 q139
                                        obtain rfl : ad137 = ad139 := (by injection e139)
                                        replace p139 := eq_true p139
                                        replace q139 := eq_true q139
                                        have p140 : 0 ≤ (x4_2 : Int) := of_decide_eq_true (by first | (with_reducible assumption) | assumption)
                                        have q140 : x4_2 < (l0.length : Int) := of_decide_eq_true (by first | (with_reducible assumption) | assumption)
                                        obtain ⟨ad140, e140, hx140_0⟩ := Kd.at_string HR0.out x4_2 p140 q140
                                        obtain rfl : ad137 = ad140 := (by injection e140)
                                        replace p140 := eq_true p140
                                        replace q140 := eq_true q140
                                        have p17 : 0 ≤ (((rdOf ByteArray.empty l0 x3_1).size : Int) : Int) := of_decide_eq_true (by first | (with_reducible assumption) | assumption)
                                        have q17 : ((rdOf ByteArray.empty l0 x3_1).size : Int) < ((rdOf ByteArray.empty l0 x4_2).size : Int) := of_decide_eq_true (by first | (with_reducible assumption) | assumption)
                                        have hx17 := bt_at (rdOf ByteArray.empty l0 x4_2) ((rdOf ByteArray.empty l0 x3_1).size : Int)
                                        replace p17 := eq_true p17
                                        replace q17 := eq_true q17
                                        go_wp2
                                        repeat (go_quiet (fail); try go_wp2)
                                        go_roundg k2
                                        case measure => have := HK1.out; have := HK2.out; omega
                                        case rel => exact ⟨(wrap64 (x4_2 + 1)), (by first | rfl | (simp; done) | (simp [*]; done)), H', ⟨by have := HK1.out; have := HK2.out; omega⟩, by repeat (first | exact Drawn0.refl _ | apply Drawn0.step)⟩
                                    · rw [if_neg c16] at H
                                      exact absurd H (by simp)
                                  · rw [if_neg c15] at H
                                    have c15b0 : (((rdOf ByteArray.empty l0 x4_2).extract 0 (((rdOf ByteArray.empty l0 x3_1).size : Int) : Int).toNat).toList == (rdOf ByteArray.empty l0 x3_1).toList) = false := beq_eq_false_iff_ne.mpr c15
                                    have c15n0 := c15b0
                                    simp only [Int.toNat_natCast] at c15n0
                                    have c15b1 : (((rdOf ByteArray.empty l0 x4_2).extract 0 (((rdOf ByteArray.empty l0 x3_1).size : Int) : Int).toNat).toList != (rdOf ByteArray.empty l0 x3_1).toList) = true := bne_iff_ne.mpr c15
                                    have c15n1 := c15b1
                                    simp only [Int.toNat_natCast] at c15n1
                                    have H' := zm H
                                    clear H
                                    have p139 : 0 ≤ (x3_1 : Int) := of_decide_eq_true (by first | (with_reducible assumption) | assumption)
                                    have q139 : x3_1 < (l0.length : Int) := of_decide_eq_true (by first | (with_reducible assumption) | assumption)
                                    obtain ⟨ad139, e139, hx139_0⟩ := Kd.at_string HR0.out x3_1 p139 q139
                                    obtain rfl : ad137 = ad139 := (by injection e139)
                                    replace p139 := eq_true p139
                                    replace q139 := eq_true q139
                                    have p140 : 0 ≤ (x4_2 : Int) := of_decide_eq_true (by first | (with_reducible assumption) | assumption)
                                    have q140 : x4_2 < (l0.length : Int) := of_decide_eq_true (by first | (with_reducible assumption) | assumption)
                                    obtain ⟨ad140, e140, hx140_0⟩ := Kd.at_string HR0.out x4_2 p140 q140
                                    obtain rfl : ad137 = ad140 := (by injection e140)
                                    replace p140 := eq_true p140
                                    replace q140 := eq_true q140
                                    go_wp2
                                    repeat (go_quiet (fail); try go_wp2)
                                    go_roundg k2
                                    case measure => have := HK1.out; have := HK2.out; omega
                                    case rel => exact ⟨(wrap64 (x4_2 + 1)), (by first | rfl | (simp; done) | (simp [*]; done)), H', ⟨by have := HK1.out; have := HK2.out; omega⟩, by repeat (first | exact Drawn0.refl _ | apply Drawn0.step)⟩
                                · rw [if_neg c14] at H
                                  exact absurd H (by simp)
                              · rw [if_neg c13] at H
                                exact absurd H (by simp)
                            · rw [if_neg c12] at H
                              have c12b0 : decide (((rdOf ByteArray.empty l0 x3_1).size : Int) < ((rdOf ByteArray.empty l0 x4_2).size : Int)) = false := decide_eq_false c12
                              have c12b1 : decide ((rdOf ByteArray.empty l0 x3_1).size < (rdOf ByteArray.empty l0 x4_2).size) = false := decide_eq_false (fun h => c12 (Int.ofNat_lt.mpr h))
                              clear c12
                              have H' := zm H
                              clear H
                              have p139 : 0 ≤ (x3_1 : Int) := of_decide_eq_true (by first | (with_reducible assumption) | assumption)
                              have q139 : x3_1 < (l0.length : Int) := of_decide_eq_true (by first | (with_reducible assumption) | assumption)
                              obtain ⟨ad139, e139, hx139_0⟩ := Kd.at_string HR0.out x3_1 p139 q139
                              obtain rfl : ad137 = ad139 := (by injection e139)
                              replace p139 := eq_true p139
                              replace q139 := eq_true q139
                              have p140 : 0 ≤ (x4_2 : Int) := of_decide_eq_true (by first | (with_reducible assumption) | assumption)
                              have q140 : x4_2 < (l0.length : Int) := of_decide_eq_true (by first | (with_reducible assumption) | assumption)
                              obtain ⟨ad140, e140, hx140_0⟩ := Kd.at_string HR0.out x4_2 p140 q140
                              obtain rfl : ad137 = ad140 := (by injection e140)
                              replace p140 := eq_true p140
                              replace q140 := eq_true q140
                              go_wp2
                              repeat (go_quiet (fail); try go_wp2)
                              go_roundg k2
                              case measure => have := HK1.out; have := HK2.out; omega
                              case rel => exact ⟨(wrap64 (x4_2 + 1)), (by first | rfl | (simp; done) | (simp [*]; done)), H', ⟨by have := HK1.out; have := HK2.out; omega⟩, by repeat (first | exact Drawn0.refl _ | apply Drawn0.step)⟩
                      · rw [if_neg c9] at H
                        exact absurd H (by simp)
                    · rw [if_neg c8] at H
                      exact absurd H (by simp)
                  · rw [if_neg c7] at H
                    exact absurd H (by simp)
                · rw [if_neg c6] at H
                  have c6b0 : decide (x4_2 < (l0.length : Int)) = false := decide_eq_false c6
                  clear c6
                  have H' := zm H
                  clear H
                  go_wp2
                  repeat (go_quiet (fail); try go_wp2)
                  go_roundg k2
                  case measure => have := HK1.out; have := HK2.out; omega
                  case rel => exact ⟨(wrap64 (x3_1 + 1)), (by first | rfl | (simp; done) | (simp [*]; done)), H', ⟨by have := HK1.out; have := HK2.out; omega⟩, by repeat (first | exact Drawn0.refl _ | apply Drawn0.step)⟩
          · replace c5 := Bool.eq_false_iff.mpr c5
            subst c5
            have H1 : (some false) = some r := by rw [if_neg (show ¬ (false = true) by decide)] at H; exact H
            clear H
            have H := H1
            clear H1
            obtain rfl := Option.some.inj H
            have p137 : 0 ≤ (x3_1 : Int) := of_decide_eq_true (by first | (with_reducible assumption) | assumption)
            have q137 : x3_1 < (l0.length : Int) := of_decide_eq_true (by first | (with_reducible assumption) | assumption)
            obtain ⟨ad137, e137, hx137_0⟩ := Kd.at_string HR0.out x3_1 p137 q137
            cases e137
            replace p137 := eq_true p137
            replace q137 := eq_true q137
            go_wp2_with (first | (go_at_call 8; (with_reducible refine (apostilleref21_Is.calls k1 (rdOf ByteArray.empty l0 x3_1) false _ A4.out).mono ?_); rintro e w' ⟨rfl, ⟨nd, rfl⟩⟩; (try first | exact ⟨rfl, _, World.drewN_drewN _ _ _⟩ | exact ⟨rfl, _, Eq.trans (World.drewN_drewN _ _ _) (congrArg (World.drewN _) (Nat.add_assoc _ _ _))⟩); (try clear A4)))
            repeat (go_quiet (first | (go_at_call 8; (with_reducible refine (apostilleref21_Is.calls k1 (rdOf ByteArray.empty l0 x3_1) false _ A4.out).mono ?_); rintro e w' ⟨rfl, ⟨nd, rfl⟩⟩; (try first | exact ⟨rfl, _, World.drewN_drewN _ _ _⟩ | exact ⟨rfl, _, Eq.trans (World.drewN_drewN _ _ _) (congrArg (World.drewN _) (Nat.add_assoc _ _ _))⟩); (try clear A4))); try go_wp2_with (first | (go_at_call 8; (with_reducible refine (apostilleref21_Is.calls k1 (rdOf ByteArray.empty l0 x3_1) false _ A4.out).mono ?_); rintro e w' ⟨rfl, ⟨nd, rfl⟩⟩; (try first | exact ⟨rfl, _, World.drewN_drewN _ _ _⟩ | exact ⟨rfl, _, Eq.trans (World.drewN_drewN _ _ _) (congrArg (World.drewN _) (Nat.add_assoc _ _ _))⟩); (try clear A4))))
            go_ret
            exact ⟨by first | rfl | (simp; done) | (simp [*]; done), by repeat (first | exact Drawn0.refl _ | apply Drawn0.step)⟩
        · rw [if_neg c3] at H
          exact absurd H (by simp)
      · rw [if_neg c2] at H
        have c2b0 : decide (x3_1 < (l0.length : Int)) = false := decide_eq_false c2
        clear c2
        obtain rfl := Option.some.inj H
        go_wp2
        repeat (go_quiet (fail); try go_wp2)
        go_ret
        exact ⟨by first | rfl | (simp; done) | (simp [*]; done), by repeat (first | exact Drawn0.refl _ | apply Drawn0.step)⟩

end Go.Proofs.YtenchfkljmodkaaDoor.A
