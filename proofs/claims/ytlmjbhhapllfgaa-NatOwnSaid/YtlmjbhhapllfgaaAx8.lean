-- a text of this claim
import Derived.Test.YtlmjbhhapllfgaaAx1
import Derived.Test.YtlmjbhhapllfgaaAx6
import Derived.Test.YtlmjbhhapllfgaaAx7
import Derived.Test.YtlmjbhhapllfgaaAx0
namespace Go.Proofs.Ytlmjbhhapllfgaa.A
open Go.RowKit Go.Proofs.YtlmjbhhapllfgaaW.PrintWords Go.Proofs.YtlmjbhhapllfgaaW.PrintLast Go.Proofs.YtlmjbhhapllfgaaW.PrintMore
attribute [local go_sem] max2_int min2_int max_two min_two max_three min_three max_four min_four   -- for this text's walks alone
set_option linter.unusedVariables false
set_option linter.unusedSimpArgs false

/-! ### nat_plain_sh: function 29, once more (its row only read) -/
set_option maxHeartbeats 8000000 in
set_option maxRecDepth 100000 in
theorem nat_plain_sh.calls (k : Nat) (P0_ : Nat → Prop) (A0 : Option Addr) (c0 : Nat) (l0 : List Int) (r : List Int) (w : World) (hs0 : Kd.V (Kd.int .u32) 40 w w.heap.size (fun k_ => P0_ k_) (.slice A0 l0.length c0) l0) (h : nat_plain.f k l0 = some r) :
    Calls Try.prog 29 #[.slice A0 l0.length c0] w fun e w' => ∃ v0_ : Value, e = .returned (v0_) ∧ Kd.V (Kd.int .u32) 40 w' w.heap.size (fun k_ => (P0_ k_ ∨ w.heap.size ≤ k_)) v0_ r ∧ Below w.heap.size w w' := by
  have HO0 := zm (show Kd.V (Kd.int .u32) 40 w w.heap.size (fun k_ => (P0_ k_ ∨ w.heap.size ≤ k_)) (.slice A0 l0.length c0) l0 from Kd.V_mono hs0 (fun k_ hk => .inl hk))
  have HB := zm (Below.refl w.heap.size w)
  have H : (nat_plain.l0 k l0) = some r := h
  clear h
  have H' := zm H
  clear H
  go_enter Try.func29, Try.ntmps29
  go_wp2
  go_loopg [0] k (fun kq v0 w' => ∃ (x0_1 : List Int), Aside0 (nat_plain.l0 kq x0_1 = some r) ∧ Aside0 (kq ≤ k) ∧ Aside0 (Kd.V (Kd.int .u32) 40 w' w.heap.size (fun k_ => (P0_ k_ ∨ w.heap.size ≤ k_)) v0 x0_1) ∧ Aside0 (Below w.heap.size w w'))
  case atStart => exact ⟨(l0), H', ⟨Nat.le_refl _⟩, ⟨by (with_reducible repeat (first | apply zv1 | apply zv2 | apply zv3)); (first | exact HO0.out | exact Kd.V_mono HO0.out (fun k_ h_ => h_.1))⟩, ⟨by repeat (first | (with_reducible first | exact HB.out | apply zb1 | apply zb2 | apply zb3) | exact HB.out)⟩⟩
  case round =>
    clear H'
    obtain ⟨x0_1, HA, HK1, HO_0, HB⟩ := hrel
    cases gk with
    | zero => exact absurd HA.out (by simp [nat_plain.l0])
    | succ k1 =>
      have H := HA.out
      clear HA
      simp only [nat_plain.l0] at H
      by_cases c2 : (x0_1.length : Int) > 0
      · rw [if_pos c2] at H
        have c2b0 : decide (0 < (x0_1.length : Int)) = true := decide_eq_true c2
        have c2b1 : decide (0 < x0_1.length) = true := decide_eq_true (by omega)
        clear c2
        obtain ⟨ji3, hji3⟩ : ∃ j_ : Int, (wrap64 ((x0_1.length : Int) - 1)) = j_ := ⟨_, rfl⟩
        replace H : (if 0 ≤ (ji3) then (if (ji3) < (x0_1.length : Int) then (if (rd x0_1 (ji3)) = 0 then (if (ji3) ≤ (x0_1.length : Int) then (nat_plain.l0 k1 (x0_1.take ((ji3) : Int).toNat)) else (none)) else (some x0_1)) else (none)) else (none)) = some r := by first | (rw [hji3] at H; exact H) | (simp only [hji3] at H ⊢; exact H)
        have hji3w : (IntKind.i64.wrap ((x0_1.length : Int) - 1)) = ji3 := (i64_w _).trans hji3
        by_cases c4 : 0 ≤ (ji3)
        · rw [if_pos c4] at H
          have c4b0 : decide (0 ≤ (ji3)) = true := decide_eq_true c4
          clear c4
          by_cases c5 : (ji3) < (x0_1.length : Int)
          · rw [if_pos c5] at H
            have c5b0 : decide ((ji3) < (x0_1.length : Int)) = true := decide_eq_true c5
            clear c5
            by_cases c6 : (rd x0_1 (ji3)) = 0
            · rw [if_pos c6] at H
              have c6b0 : ((rd x0_1 (ji3)) == 0) = true := beq_iff_eq.mpr c6
              have c6b1 : ((rd x0_1 (ji3)) != 0) = false := bne_eq_false_iff_eq.mpr c6
              clear c6
              have c7b0 := eq_true (of_decide_eq_true (by first | (with_reducible assumption) | assumption) : 0 ≤ (ji3))
              by_cases c8 : (ji3) ≤ (x0_1.length : Int)
              · rw [if_pos c8] at H
                have c8b0 := eq_true c8
                have c8b1 : decide ((ji3) ≤ (x0_1.length : Int)) = true := decide_eq_true c8
                clear c8
                obtain ⟨y102, hy102⟩ : ∃ y_ : List Int, y_ = (x0_1.take ((ji3) : Int).toNat) := ⟨_, rfl⟩
                replace H : (nat_plain.l0 k1 y102) = some r := by first | (rw [hy102]; with_reducible exact H) | (have H2_ := (Option.bind_some _ _).symm.trans H; rw [hy102]; with_reducible exact H2_) | (have H2_ := (Option.bind_some _ _).symm.trans H; with_reducible exact H2_) | with_reducible exact H | (rw [hy102]; exact H) | exact H
                have Ny102 := zm hy102
                clear hy102
                have H' := zm H
                clear H
                obtain ⟨Ao9, co9, eo9⟩ := Kd.V_slice HO_0.out
                subst eo9
                have p101 : 0 ≤ ((ji3) : Int) := of_decide_eq_true (by first | (with_reducible assumption) | assumption)
                have q101 : (ji3) < (x0_1.length : Int) := of_decide_eq_true (by first | (with_reducible assumption) | assumption)
                obtain ⟨ad101, e101, hx101_0⟩ := Kd.at_int (Kd.V_reads' HO_0.out).2.2 (ji3) p101 q101
                cases e101
                replace p101 := eq_true p101
                replace q101 := eq_true q101
                have q10 : ((ji3) : Int) ≤ ((x0_1.length : Int) : Int) := of_decide_eq_true (by first | (with_reducible assumption) | assumption)
                obtain ⟨i010, hi010, _, hsz10, _⟩ := info_parts info40
                have hroom10 : x0_1.length ≤ co9 := (Kd.V_reads' HO_0.out).2.1
                have hC10 : Kd.F (Kd.int .u32) _ _ (some ad101) x0_1.length x0_1 := (Kd.V_at (base := w.heap.size) HO_0.out).2.2
                have hcut10 := cut_to (P := Try.prog) 24 40 .i64 Try.underlying24 hi010 (some ad101) x0_1.length co9 (ji3) (of_decide_eq_true (by first | (with_reducible assumption) | assumption)) q10 hroom10
                have hr10 := Kd.F_take (m := ((ji3) : Int).toNat) hC10 (by omega)
                have hy10 : y102.length = ((ji3) : Int).toNat := (by rw [Ny102.out, List.length_take]; omega)
                rw [← Ny102.out] at hr10
                rw [← hy10] at hcut10
                have HO106 := zm (show Kd.V (Kd.int .u32) 40 _ w.heap.size _ (.slice (some ad101) y102.length co9) y102 from Kd.V_mk (by omega) hr10)
                have HC106 := zm (show y102.length ≤ co9 from by omega)
                clear hr10 hC10 hroom10 hi010 hsz10
                have KY10 := zm hy10
                clear hy10
                replace q10 := eq_true q10
                go_wp2
                go_roundg k1
                case measure => have := HK1.out; omega
                case rel => exact ⟨(y102), H', ⟨by have := HK1.out; omega⟩, ⟨by (with_reducible repeat (first | apply zv1 | apply zv2 | apply zv3)); (first | exact HO106.out | exact Kd.V_mono HO106.out (fun k_ h_ => h_.1))⟩, ⟨by repeat (first | (with_reducible first | exact HB.out | apply zb1 | apply zb2 | apply zb3) | exact HB.out)⟩⟩
              · rw [if_neg c8] at H
                exact absurd H (by simp)
            · rw [if_neg c6] at H
              have c6b0 : ((rd x0_1 (ji3)) == 0) = false := beq_eq_false_iff_ne.mpr c6
              have c6b1 : ((rd x0_1 (ji3)) != 0) = true := bne_iff_ne.mpr c6
              obtain rfl := Option.some.inj H
              obtain ⟨Ao11, co11, eo11⟩ := Kd.V_slice HO_0.out
              subst eo11
              have p101 : 0 ≤ ((ji3) : Int) := of_decide_eq_true (by first | (with_reducible assumption) | assumption)
              have q101 : (ji3) < (x0_1.length : Int) := of_decide_eq_true (by first | (with_reducible assumption) | assumption)
              obtain ⟨ad101, e101, hx101_0⟩ := Kd.at_int (Kd.V_reads' HO_0.out).2.2 (ji3) p101 q101
              cases e101
              replace p101 := eq_true p101
              replace q101 := eq_true q101
              go_wp2
              go_ret
              exact ⟨_, by first | rfl | (simp [errW_none, errW_some] <;> rfl) | (simp only [← hji3]; first | rfl | (simp [errW_none, errW_some] <;> rfl)) | (simp [*, errW_none, errW_some] <;> rfl), by (with_reducible repeat (first | apply zv1 | apply zv2 | apply zv3)); exact HO_0.out, by repeat (first | (with_reducible first | exact HB.out | apply zb1 | apply zb2 | apply zb3) | exact HB.out)⟩
          · rw [if_neg c5] at H
            exact absurd H (by simp)
        · rw [if_neg c4] at H
          exact absurd H (by simp)
      · rw [if_neg c2] at H
        have c2b0 : decide (0 < (x0_1.length : Int)) = false := decide_eq_false c2
        have c2b1 : decide (0 < x0_1.length) = false := decide_eq_false (by omega)
        clear c2
        obtain rfl := Option.some.inj H
        obtain ⟨Ao12, co12, eo12⟩ := Kd.V_slice HO_0.out
        subst eo12
        go_wp2
        go_ret
        exact ⟨_, by first | rfl | (simp [errW_none, errW_some] <;> rfl) | (simp [*, errW_none, errW_some] <;> rfl), by (with_reducible repeat (first | apply zv1 | apply zv2 | apply zv3)); exact HO_0.out, by repeat (first | (with_reducible first | exact HB.out | apply zb1 | apply zb2 | apply zb3) | exact HB.out)⟩

/-! ### parts of a row that are lent (contracts of this session) -/
def partV (u : Value) (i m : Nat) : Value := match u with
  | .slice A _ c => .slice (if c = i then A else A.map (·.add (i * 1))) m (c - i)
  | v => v
theorem part_hi (x : Int) (m N : Nat) (h0 : 0 ≤ x) (hb : x.toNat + m + 1 ≤ N) (hN : N ≤ 9223372036854775807) : wrap64 (wrap64 (x + (m : Int)) + 1) = x + (m : Int) + 1 := by
  have e : wrap64 (x + (m : Int)) = x + (m : Int) := by unfold wrap64; omega
  rw [e]; unfold wrap64; omega
def nat_guess_at.f (k : Nat) (l0 l1 : List Int) (a2 : Int) : Option Int := if 0 ≤ a2 then (if a2.toNat + l1.length + 1 ≤ l0.length then (nat_guess.f k ((l0.drop a2.toNat).take (l1.length + 1)) l1) else none) else none
def nat_less_at.f (k : Nat) (l0 l1 : List Int) (a2 a3 : Int) : Option (Bool × List Int) := if 0 ≤ a3 then (if a3.toNat + l1.length + 1 ≤ l0.length then ((nat_less.f k ((l0.drop a3.toNat).take (l1.length + 1)) l1 a2).bind fun b => some (b.1, l0.take a3.toNat ++ b.2 ++ l0.drop (a3.toNat + (l1.length + 1)))) else none) else none
def nat_more_at.f (k : Nat) (l0 l1 : List Int) (a2 : Int) : Option (List Int) := if 0 ≤ a2 then (if a2.toNat + l1.length + 1 ≤ l0.length then ((nat_more.f k ((l0.drop a2.toNat).take (l1.length + 1)) l1).bind fun b => some (l0.take a2.toNat ++ b ++ l0.drop (a2.toNat + (l1.length + 1)))) else none) else none
theorem nat_guess_at.bound {k : Nat} {l0 l1 : List Int} {a2 r : Int} (h : nat_guess_at.f k l0 l1 a2 = some r) : 0 ≤ a2 ∧ a2.toNat + l1.length + 1 ≤ l0.length := by
  unfold nat_guess_at.f at h
  split at h
  · split at h
    · exact ⟨by assumption, by assumption⟩
    · exact absurd h (by simp)
  · exact absurd h (by simp)
theorem part_len (l : List Int) (i m : Nat) (h : i + m ≤ l.length) : ((l.drop i).take m).length = m := by rw [List.length_take, List.length_drop]; omega
theorem part_whole (l : List Int) (i m : Nat) : l.take i ++ (l.drop i).take m ++ l.drop (i + m) = l := by
  rw [List.append_assoc, ← List.drop_drop, List.take_append_drop, List.take_append_drop]
theorem nat_guess_at.calls (pv : Value) (k : Nat) (A0 : Option Addr) (c0 : Nat) (l0 : List Int) (A1 : Option Addr) (c1 : Nat) (l1 : List Int) (a2 : Int) (r : Int) (w : World) (hpv : pv = partV (.slice A0 l0.length c0) a2.toNat (l1.length + 1))
    (hr0 : Kd.C (Kd.int .u32) w A0 l0.length l0) (hc0 : l0.length ≤ c0) (hr1 : Kd.C (Kd.int .u32) w A1 l1.length l1) (hc1 : l1.length ≤ c1) (h : nat_guess_at.f k l0 l1 a2 = some r) :
    Calls Try.prog 41 #[pv, .slice A1 l1.length c1] w fun e w' => e = .returned (.int .u64 r) ∧ Drawn0 w w' := by
  obtain ⟨h0, hb⟩ := nat_guess_at.bound h
  unfold nat_guess_at.f at h
  rw [if_pos h0, if_pos hb] at h
  have hl := part_len l0 a2.toNat (l1.length + 1) (by omega)
  have hd := Kd.C_drop (m := a2.toNat) (c := c0) hr0 (by omega) hc0
  have ht := Kd.C_take (m := l1.length + 1) hd (by rw [List.length_drop]; omega)
  have := nat_guess.calls k _ (c0 - a2.toNat) _ A1 c1 l1 r w ht (by rw [hl]; omega) hr1 hc1 h
  rw [hl] at this
  rw [hpv]
  exact this
theorem nat_less_at.calls (pv : Value) (k : Nat) (P0_ : Nat → Prop) (u9000_ : Value) (l0 : List Int) (A1 : Option Addr) (c1 : Nat) (l1 : List Int) (a2 a3 : Int) (r1 : Bool) (r2 : List Int) (w0 w : World) (hpv : pv = partV u9000_ a3.toNat (l1.length + 1))
    (hB : Below w0.heap.size w0 w) (ho0 : Kd.R (Kd.int .u32) 40 w w0.heap.size P0_ u9000_ l0) (hr1 : ∀ W_, Kept w W_ (fun k_ => P0_ k_) → Kd.C (Kd.int .u32) W_ A1 l1.length l1) (hc1 : l1.length ≤ c1) (h : nat_less_at.f k l0 l1 a2 a3 = some (r1, r2)) :
    Calls Try.prog 42 #[pv, .slice A1 l1.length c1, .int .u64 a2] w fun e w' => e = .returned (.bool r1) ∧ Kd.R (Kd.int .u32) 40 w' w0.heap.size (fun k_ => (P0_ k_ ∨ w.heap.size ≤ k_)) u9000_ r2 ∧ Below w0.heap.size w0 w' ∧ Kept w w' (fun k_ => P0_ k_) := by
  unfold nat_less_at.f at h
  split at h
  case isFalse => exact absurd h (by simp)
  case isTrue h0 =>
  split at h
  case isFalse => exact absurd h (by simp)
  case isTrue hb =>
  obtain ⟨⟨q1, q2⟩, hq, he⟩ := Option.bind_eq_some_iff.mp h
  simp only [Option.some.injEq, Prod.mk.injEq] at he
  obtain ⟨rfl, rfl⟩ := he
  have hl := part_len l0 a3.toNat (l1.length + 1) (by omega)
  obtain ⟨g, c, hu, _⟩ := Kd.R_form ho0 (by omega)
  subst hu
  have hc := (Kd.R_reads' ho0).2.1
  have hp : pv = .slice (some ⟨g, (l0.take a3.toNat).length, none⟩) ((l0.drop a3.toNat).take (l1.length + 1)).length (c - a3.toNat) := by
    rw [hpv, hl, List.length_take, Nat.min_eq_left (by omega)]
    show Value.slice (if c = a3.toNat then (some ⟨g, 0, none⟩ : Option Addr) else (some ⟨g, 0, none⟩ : Option Addr).map (·.add (a3.toNat * 1))) _ _ = _
    rw [if_neg (by omega), Nat.mul_one]
    show Value.slice (some ((⟨g, 0, none⟩ : Addr).add a3.toNat)) _ _ = _
    rw [add_plain]
  have hR : RCut 40 c (c - a3.toNat) g (l0.take a3.toNat) (l0.drop (a3.toNat + (l1.length + 1))) w w0.heap.size P0_ pv ((l0.drop a3.toNat).take (l1.length + 1)) := by
    refine ⟨hp, by rw [hl]; omega, ?_⟩
    rw [part_whole]
    exact ho0
  refine (nat_less.calls_cut k P0_ pv c (c - a3.toNat) g _ _ _ A1 c1 l1 a2 _ _ w0 w hB hR hr1 hc1 hq).mono ?_
  rintro e w' ⟨he, h1, h2, h3⟩
  refine ⟨he, ?_, h2, h3⟩
  obtain ⟨e1, _, e3⟩ := h1
  rw [hp] at e1
  injection e1 with _ e4 _
  have e5 : (l0.take a3.toNat ++ q2 ++ l0.drop (a3.toNat + (l1.length + 1))).length = l0.length := by
    simp only [List.length_append, List.length_take, List.length_drop] at *
    omega
  rw [e5] at e3
  exact e3
theorem nat_more_at.calls (pv : Value) (k : Nat) (P0_ : Nat → Prop) (u9000_ : Value) (l0 : List Int) (A1 : Option Addr) (c1 : Nat) (l1 : List Int) (a3 : Int) (r : List Int) (w0 w : World) (hpv : pv = partV u9000_ a3.toNat (l1.length + 1))
    (hB : Below w0.heap.size w0 w) (ho0 : Kd.R (Kd.int .u32) 40 w w0.heap.size P0_ u9000_ l0) (hr1 : ∀ W_, Kept w W_ (fun k_ => P0_ k_) → Kd.C (Kd.int .u32) W_ A1 l1.length l1) (hc1 : l1.length ≤ c1) (h : nat_more_at.f k l0 l1 a3 = some r) :
    Calls Try.prog 43 #[pv, .slice A1 l1.length c1] w fun e w' => e = .returned (.tuple #[]) ∧ Kd.R (Kd.int .u32) 40 w' w0.heap.size (fun k_ => (P0_ k_ ∨ w.heap.size ≤ k_)) u9000_ r ∧ Below w0.heap.size w0 w' ∧ Kept w w' (fun k_ => P0_ k_) := by
  unfold nat_more_at.f at h
  split at h
  case isFalse => exact absurd h (by simp)
  case isTrue h0 =>
  split at h
  case isFalse => exact absurd h (by simp)
  case isTrue hb =>
  obtain ⟨q2, hq, he⟩ := Option.bind_eq_some_iff.mp h
  obtain rfl := Option.some.inj he
  have hl := part_len l0 a3.toNat (l1.length + 1) (by omega)
  obtain ⟨g, c, hu, _⟩ := Kd.R_form ho0 (by omega)
  subst hu
  have hc := (Kd.R_reads' ho0).2.1
  have hp : pv = .slice (some ⟨g, (l0.take a3.toNat).length, none⟩) ((l0.drop a3.toNat).take (l1.length + 1)).length (c - a3.toNat) := by
    rw [hpv, hl, List.length_take, Nat.min_eq_left (by omega)]
    show Value.slice (if c = a3.toNat then (some ⟨g, 0, none⟩ : Option Addr) else (some ⟨g, 0, none⟩ : Option Addr).map (·.add (a3.toNat * 1))) _ _ = _
    rw [if_neg (by omega), Nat.mul_one]
    show Value.slice (some ((⟨g, 0, none⟩ : Addr).add a3.toNat)) _ _ = _
    rw [add_plain]
  have hR : RCut 40 c (c - a3.toNat) g (l0.take a3.toNat) (l0.drop (a3.toNat + (l1.length + 1))) w w0.heap.size P0_ pv ((l0.drop a3.toNat).take (l1.length + 1)) := by
    refine ⟨hp, by rw [hl]; omega, ?_⟩
    rw [part_whole]
    exact ho0
  refine (nat_more.calls_cut k P0_ pv c (c - a3.toNat) g _ _ _ A1 c1 l1 _ w0 w hB hR hr1 hc1 hq).mono ?_
  rintro e w' ⟨he, h1, h2, h3⟩
  refine ⟨he, ?_, h2, h3⟩
  obtain ⟨e1, _, e3⟩ := h1
  rw [hp] at e1
  injection e1 with _ e4 _
  have e5 : (l0.take a3.toNat ++ q2 ++ l0.drop (a3.toNat + (l1.length + 1))).length = l0.length := by
    simp only [List.length_append, List.length_take, List.length_drop] at *
    omega
  rw [e5] at e3
  exact e3

end Go.Proofs.Ytlmjbhhapllfgaa.A
