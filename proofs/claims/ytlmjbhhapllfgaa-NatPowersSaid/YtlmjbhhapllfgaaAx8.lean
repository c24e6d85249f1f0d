-- a text of this claim
import Derived.Test.YtlmjbhhapllfgaaAx0
import Derived.Test.YtlmjbhhapllfgaaAx6
import Derived.Test.YtlmjbhhapllfgaaAx7
namespace Go.Proofs.Ytlmjbhhapllfgaa.A
open Go.RowKit Go.Proofs.YtlmjbhhapllfgaaW.PrintWords Go.Proofs.YtlmjbhhapllfgaaW.PrintLast Go.Proofs.YtlmjbhhapllfgaaW.PrintMore
attribute [local go_sem] max2_int min2_int max_two min_two max_three min_three max_four min_four   -- for this text's walks alone
set_option linter.unusedVariables false
set_option linter.unusedSimpArgs false

/-! ### parts of a row that are lent (contracts of this session) -/
def partV (u : Value) (i m : Nat) : Value := match u with
  | .slice A _ c => .slice (if c = i then A else A.map (·.add (i * 1))) m (c - i)
  | v => v
theorem part_hi (x : Int) (m N : Nat) (h0 : 0 ≤ x) (hb : x.toNat + m + 1 ≤ N) (hN : N ≤ 9223372036854775807) : wrap64 (wrap64 (x + (m : Int)) + 1) = x + (m : Int) + 1 := by
  have e : wrap64 (x + (m : Int)) = x + (m : Int) := by unfold wrap64; omega
  rw [e]; unfold wrap64; omega
def nat_guess_at.f (k : Nat) (l0 l1 : List Int) (a2 : Int) : Option Int := if 0 ≤ a2 then (if a2.toNat + l1.length + 1 ≤ l0.length then (nat_guess.f k ((l0.drop a2.toNat).take (l1.length + 1)) l1) else none) else none
def nat_less_at.f (k : Nat) (l0 l1 : List Int) (a2 a3 : Int) : Option (Bool × List Int) := if 0 ≤ a3 then (if a3.toNat + l1.length + 1 ≤ l0.length then ((nat_less.f k ((l0.drop a3.toNat).take (l1.length + 1)) l1 a2).bind fun b => some (b.1, l0.take a3.toNat ++ b.2 ++ l0.drop (a3.toNat + (l1.length + 1)))) else none) else none
def nat_more_at.f (k : Nat) (l0 l1 : List Int) (a2 : Int) : Option (List Int) := if 0 ≤ a2 then (if a2.toNat + l1.length + 1 ≤ l0.length then ((nat_more.f k ((l0.drop a2.toNat).take (l1.length + 1)) l1).bind fun b => some (l0.take a2.toNat ++ b ++ l0.drop (a2.toNat + (l1.length + 1)))) else none) else none
theorem nat_guess_at.mono : ∀ a0 a1 a2 k, LeO (nat_guess_at.f k a0 a1 a2) (nat_guess_at.f (k + 1) a0 a1 a2) := by
  intro a0 a1 a2 k
  unfold nat_guess_at.f
  refine LeO.ite (LeO.ite ?_ (LeO.none _)) (LeO.none _)
  exact nat_guess.mono _ _ _
theorem nat_less_at.mono : ∀ a0 a1 a2 a3 k, LeO (nat_less_at.f k a0 a1 a2 a3) (nat_less_at.f (k + 1) a0 a1 a2 a3) := by
  intro a0 a1 a2 a3 k
  unfold nat_less_at.f
  refine LeO.ite (LeO.ite (LeO.bind ?_ (fun _ => LeO.refl _)) (LeO.none _)) (LeO.none _)
  exact nat_less.mono _ _ _ _
theorem nat_more_at.mono : ∀ a0 a1 a2 k, LeO (nat_more_at.f k a0 a1 a2) (nat_more_at.f (k + 1) a0 a1 a2) := by
  intro a0 a1 a2 k
  unfold nat_more_at.f
  refine LeO.ite (LeO.ite (LeO.bind ?_ (fun _ => LeO.refl _)) (LeO.none _)) (LeO.none _)
  exact nat_more.mono _ _ _
theorem nat_guess_at.bound {k : Nat} {l0 l1 : List Int} {a2 r : Int} (h : nat_guess_at.f k l0 l1 a2 = some r) : 0 ≤ a2 ∧ a2.toNat + l1.length + 1 ≤ l0.length := by
  unfold nat_guess_at.f at h
  split at h
  · split at h
    · exact ⟨by assumption, by assumption⟩
    · exact absurd h (by simp)
  · exact absurd h (by simp)
theorem part_len (l : List Int) (i m : Nat) (h : i + m ≤ l.length) : ((l.drop i).take m).length = m := by rw [List.length_take, List.length_drop]; omega
theorem part_whole (l : List Int) (i m : Nat) : l.take i ++ (l.drop i).take m ++ l.drop (i + m) = l := by
  rw [List.append_assoc, ← List.drop_drop, List.take_append_drop, List.take_append_drop]
theorem nat_guess_at.calls (pv : Value) (k : Nat) (A0 : Option Addr) (c0 : Nat) (l0 : List Int) (A1 : Option Addr) (c1 : Nat) (l1 : List Int) (a2 : Int) (r : Int) (w : World) (hpv : pv = partV (.slice A0 l0.length c0) a2.toNat (l1.length + 1))
    (hr0 : Kd.C (Kd.int .u32) w A0 l0.length l0) (hc0 : l0.length ≤ c0) (hr1 : Kd.C (Kd.int .u32) w A1 l1.length l1) (hc1 : l1.length ≤ c1) (h : nat_guess_at.f k l0 l1 a2 = some r) :
    Calls Try.prog 41 #[pv, .slice A1 l1.length c1] w fun e w' => e = .returned (.int .u64 r) ∧ Drawn0 w w' := by
  obtain ⟨h0, hb⟩ := nat_guess_at.bound h
  unfold nat_guess_at.f at h
  rw [if_pos h0, if_pos hb] at h
  have hl := part_len l0 a2.toNat (l1.length + 1) (by omega)
  have hd := Kd.C_drop (m := a2.toNat) (c := c0) hr0 (by omega) hc0
  have ht := Kd.C_take (m := l1.length + 1) hd (by rw [List.length_drop]; omega)
  have := nat_guess.calls k _ (c0 - a2.toNat) _ A1 c1 l1 r w ht (by rw [hl]; omega) hr1 hc1 h
  rw [hl] at this
  rw [hpv]
  exact this
theorem nat_less_at.calls (pv : Value) (k : Nat) (P0_ : Nat → Prop) (u9000_ : Value) (l0 : List Int) (A1 : Option Addr) (c1 : Nat) (l1 : List Int) (a2 a3 : Int) (r1 : Bool) (r2 : List Int) (w0 w : World) (hpv : pv = partV u9000_ a3.toNat (l1.length + 1))
    (hB : Below w0.heap.size w0 w) (ho0 : Kd.R (Kd.int .u32) 40 w w0.heap.size P0_ u9000_ l0) (hr1 : ∀ W_, Kept w W_ (fun k_ => P0_ k_) → Kd.C (Kd.int .u32) W_ A1 l1.length l1) (hc1 : l1.length ≤ c1) (h : nat_less_at.f k l0 l1 a2 a3 = some (r1, r2)) :
    Calls Try.prog 42 #[pv, .slice A1 l1.length c1, .int .u64 a2] w fun e w' => e = .returned (.bool r1) ∧ Kd.R (Kd.int .u32) 40 w' w0.heap.size (fun k_ => (P0_ k_ ∨ w.heap.size ≤ k_)) u9000_ r2 ∧ Below w0.heap.size w0 w' ∧ Kept w w' (fun k_ => P0_ k_) := by
  unfold nat_less_at.f at h
  split at h
  case isFalse => exact absurd h (by simp)
  case isTrue h0 =>
  split at h
  case isFalse => exact absurd h (by simp)
  case isTrue hb =>
  obtain ⟨⟨q1, q2⟩, hq, he⟩ := Option.bind_eq_some_iff.mp h
  simp only [Option.some.injEq, Prod.mk.injEq] at he
  obtain ⟨rfl, rfl⟩ := he
  have hl := part_len l0 a3.toNat (l1.length + 1) (by omega)
  obtain ⟨g, c, hu, _⟩ := Kd.R_form ho0 (by omega)
  subst hu
  have hc := (Kd.R_reads' ho0).2.1
  have hp : pv = .slice (some ⟨g, (l0.take a3.toNat).length, none⟩) ((l0.drop a3.toNat).take (l1.length + 1)).length (c - a3.toNat) := by
    rw [hpv, hl, List.length_take, Nat.min_eq_left (by omega)]
    show Value.slice (if c = a3.toNat then (some ⟨g, 0, none⟩ : Option Addr) else (some ⟨g, 0, none⟩ : Option Addr).map (·.add (a3.toNat * 1))) _ _ = _
    rw [if_neg (by omega), Nat.mul_one]
    show Value.slice (some ((⟨g, 0, none⟩ : Addr).add a3.toNat)) _ _ = _
    rw [add_plain]
  have hR : RCut 40 c (c - a3.toNat) g (l0.take a3.toNat) (l0.drop (a3.toNat + (l1.length + 1))) w w0.heap.size P0_ pv ((l0.drop a3.toNat).take (l1.length + 1)) := by
    refine ⟨hp, by rw [hl]; omega, ?_⟩
    rw [part_whole]
    exact ho0
  refine (nat_less.calls_cut k P0_ pv c (c - a3.toNat) g _ _ _ A1 c1 l1 a2 _ _ w0 w hB hR hr1 hc1 hq).mono ?_
  rintro e w' ⟨he, h1, h2, h3⟩
  refine ⟨he, ?_, h2, h3⟩
  obtain ⟨e1, _, e3⟩ := h1
  rw [hp] at e1
  injection e1 with _ e4 _
  have e5 : (l0.take a3.toNat ++ q2 ++ l0.drop (a3.toNat + (l1.length + 1))).length = l0.length := by
    simp only [List.length_append, List.length_take, List.length_drop] at *
    omega
  rw [e5] at e3
  exact e3
theorem nat_more_at.calls (pv : Value) (k : Nat) (P0_ : Nat → Prop) (u9000_ : Value) (l0 : List Int) (A1 : Option Addr) (c1 : Nat) (l1 : List Int) (a3 : Int) (r : List Int) (w0 w : World) (hpv : pv = partV u9000_ a3.toNat (l1.length + 1))
    (hB : Below w0.heap.size w0 w) (ho0 : Kd.R (Kd.int .u32) 40 w w0.heap.size P0_ u9000_ l0) (hr1 : ∀ W_, Kept w W_ (fun k_ => P0_ k_) → Kd.C (Kd.int .u32) W_ A1 l1.length l1) (hc1 : l1.length ≤ c1) (h : nat_more_at.f k l0 l1 a3 = some r) :
    Calls Try.prog 43 #[pv, .slice A1 l1.length c1] w fun e w' => e = .returned (.tuple #[]) ∧ Kd.R (Kd.int .u32) 40 w' w0.heap.size (fun k_ => (P0_ k_ ∨ w.heap.size ≤ k_)) u9000_ r ∧ Below w0.heap.size w0 w' ∧ Kept w w' (fun k_ => P0_ k_) := by
  unfold nat_more_at.f at h
  split at h
  case isFalse => exact absurd h (by simp)
  case isTrue h0 =>
  split at h
  case isFalse => exact absurd h (by simp)
  case isTrue hb =>
  obtain ⟨q2, hq, he⟩ := Option.bind_eq_some_iff.mp h
  obtain rfl := Option.some.inj he
  have hl := part_len l0 a3.toNat (l1.length + 1) (by omega)
  obtain ⟨g, c, hu, _⟩ := Kd.R_form ho0 (by omega)
  subst hu
  have hc := (Kd.R_reads' ho0).2.1
  have hp : pv = .slice (some ⟨g, (l0.take a3.toNat).length, none⟩) ((l0.drop a3.toNat).take (l1.length + 1)).length (c - a3.toNat) := by
    rw [hpv, hl, List.length_take, Nat.min_eq_left (by omega)]
    show Value.slice (if c = a3.toNat then (some ⟨g, 0, none⟩ : Option Addr) else (some ⟨g, 0, none⟩ : Option Addr).map (·.add (a3.toNat * 1))) _ _ = _
    rw [if_neg (by omega), Nat.mul_one]
    show Value.slice (some ((⟨g, 0, none⟩ : Addr).add a3.toNat)) _ _ = _
    rw [add_plain]
  have hR : RCut 40 c (c - a3.toNat) g (l0.take a3.toNat) (l0.drop (a3.toNat + (l1.length + 1))) w w0.heap.size P0_ pv ((l0.drop a3.toNat).take (l1.length + 1)) := by
    refine ⟨hp, by rw [hl]; omega, ?_⟩
    rw [part_whole]
    exact ho0
  refine (nat_more.calls_cut k P0_ pv c (c - a3.toNat) g _ _ _ A1 c1 l1 _ w0 w hB hR hr1 hc1 hq).mono ?_
  rintro e w' ⟨he, h1, h2, h3⟩
  refine ⟨he, ?_, h2, h3⟩
  obtain ⟨e1, _, e3⟩ := h1
  rw [hp] at e1
  injection e1 with _ e4 _
  have e5 : (l0.take a3.toNat ++ q2 ++ l0.drop (a3.toNat + (l1.length + 1))).length = l0.length := by
    simp only [List.length_append, List.length_take, List.length_drop] at *
    omega
  rw [e5] at e3
  exact e3

end Go.Proofs.Ytlmjbhhapllfgaa.A
