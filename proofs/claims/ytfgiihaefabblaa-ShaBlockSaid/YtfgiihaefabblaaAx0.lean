-- a text of this claim
import Derived.Test.YtfgiihaefabblaaProg
import Derived.Below
import Derived.Deep.Draws
import Derived.Deep.AppendLies
import Derived.Maps.AppendAt
import Derived.OwnWalk
import Derived.Laws.BytesArg
import Derived.Laws.MakeOwn
import Derived.Laws.OwnMore
import Derived.Deep.OwnRows
import Derived.Tactics
import Derived.Lib.ConvBytes
import Derived.Laws.Slices
import Derived.WalkKit
import Derived.KernelRfl
import Derived.RowKit3
import Derived.Deep.LoopGhost
import Derived.Deep.QuietTactic
import Derived.BigQuiet
import Derived.WideLaws
import Derived.Deep.DeepCutAuto
import Derived.Deep.CutBlock
import Derived.Deep.RegionHeld3
import Derived.Laws.Rows
import Derived.Lib.AppendStr
import Derived.ArgAppend
import Derived.Laws.IdiomCopy
import Derived.OrdersHeld
import Derived.Laws.BitsLemmas
import Derived.RowKit
import Derived.Test.YtfgiihaefabblaaWWords
import Derived.Test.YtfgiihaefabblaaWLast
import Derived.Test.YtfgiihaefabblaaWTab
import Derived.Test.YtfgiihaefabblaaWFour
import Derived.Test.YtfgiihaefabblaaWQPut
import Derived.Test.YtfgiihaefabblaaWApart
import Derived.Test.YtfgiihaefabblaaWArr
import Derived.Test.YtfgiihaefabblaaWZeros
import Derived.Test.YtfgiihaefabblaaWFoot
import Derived.Test.YtfgiihaefabblaaWKept
import Derived.Test.YtfgiihaefabblaaWShare
import Derived.Test.YtfgiihaefabblaaWN
import Derived.Test.YtfgiihaefabblaaWFootNe
import Derived.Test.YtfgiihaefabblaaWAt
import Derived.Test.YtfgiihaefabblaaWEqStruct
import Derived.Test.YtfgiihaefabblaaWRepsOne
import Derived.Test.YtfgiihaefabblaaWInv
import Derived.Test.YtfgiihaefabblaaWInvWords
import Derived.Test.YtfgiihaefabblaaWGuard
import Derived.Test.YtfgiihaefabblaaWNEv
import Derived.Test.YtfgiihaefabblaaWMore
namespace Go.Proofs.Ytfgiihaefabblaa.A
open Go.RowKit Go.Proofs.YtfgiihaefabblaaW.PrintWords Go.Proofs.YtfgiihaefabblaaW.PrintLast Go.Proofs.YtfgiihaefabblaaW.PrintMore
attribute [local go_sem] max2_int min2_int max_two min_two max_three min_three max_four min_four   -- for this text's walks alone
set_option linter.unusedVariables false
set_option linter.unusedSimpArgs false

theorem zm {p : Prop} (h : p) : Aside0 p := ⟨h⟩
theorem zb1 {w W : World} (h : Below w.heap.size w W) (o : Obj) : Below w.heap.size w (W.alloc o) := below_alloc h o
theorem zb2 {B : Nat} {w W : World} (h : Below B w W) (n : Nat) : Below B w (W.drewN n) := pw_below_drewN h n
theorem zb3 {base : Nat} {w W : World} (h : Below base w W) : Below base w W.drew := below_drew1 h
section
variable {α : Type} {d : Kd α} {e base n : Nat} {ok : Nat → Prop} {v : Value} {xs : List α} {w : World} {A : Option Addr}
theorem zr1 (h : Kd.R d e w base ok v xs) (o : Obj) : Kd.R d e (w.alloc o) base ok v xs := Kd.R_alloc h o
theorem zr2 (h : Kd.R d e w base ok v xs) (m : Nat) : Kd.R d e (w.drewN m) base ok v xs := Kd.R_drewN h m
theorem zr3 (h : Kd.R d e w base ok v xs) : Kd.R d e w.drew base ok v xs := Kd.R_drew h
theorem zv1 (h : Kd.V d e w base ok v xs) (o : Obj) : Kd.V d e (w.alloc o) base ok v xs := Kd.V_alloc h o
theorem zv2 (h : Kd.V d e w base ok v xs) (m : Nat) : Kd.V d e (w.drewN m) base ok v xs := Kd.V_drewN h m
theorem zv3 (h : Kd.V d e w base ok v xs) : Kd.V d e w.drew base ok v xs := Kd.V_drew h
theorem zc1 (h : Kd.C d w A n xs) (o : Obj) : Kd.C d (w.alloc o) A n xs := Kd.C_alloc h o
theorem zc2 (h : Kd.C d w A n xs) (m : Nat) : Kd.C d (w.drewN m) A n xs := Kd.C_drewN h m
theorem zc3 (h : Kd.C d w A n xs) : Kd.C d w.drew A n xs := Kd.C_drew h
end
theorem zl1 {α β : Type} (f : α → β) (l : List α) : l.toArray.map f = (l.map f).toArray := List.map_toArray ..
theorem zl2 {α β : Type} (f : α → β) (a : α) (l : List α) : (a :: l).map f = f a :: l.map f := List.map_cons ..
theorem zl3 {α β : Type} (f : α → β) : ([] : List α).map f = [] := List.map_nil ..
theorem add_off (g o j : Nat) : (⟨g, o, none⟩ : Addr).add j = ⟨g, o + j, none⟩ := by unfold Addr.add; split <;> simp_all
/-- A part of a row of one's own, ahead of it 'pre', behind it 'post'. -/
def RCut (e c cc g : Nat) (pre post : List Int) (W : World) (base : Nat) (ok : Nat → Prop) (v : Value) (xs : List Int) : Prop :=
  v = .slice (some ⟨g, pre.length, none⟩) xs.length cc ∧ xs.length ≤ cc ∧ Kd.R (Kd.int .u32) e W base ok (.slice (some ⟨g, 0, none⟩) (pre ++ xs ++ post).length c) (pre ++ xs ++ post)
section
variable {e c cc g : Nat} {pre post : List Int} {W : World} {base : Nat} {ok ok' : Nat → Prop} {v : Value} {xs : List Int}
theorem RCut_mono (h : RCut e c cc g pre post W base ok v xs) (hok : ∀ k, ok k → ok' k) : RCut e c cc g pre post W base ok' v xs := ⟨h.1, h.2.1, Kd.R_mono h.2.2 hok⟩
theorem RCut_alloc (h : RCut e c cc g pre post W base ok v xs) (o : Obj) : RCut e c cc g pre post (W.alloc o) base ok v xs := ⟨h.1, h.2.1, Kd.R_alloc h.2.2 o⟩
theorem RCut_drew (h : RCut e c cc g pre post W base ok v xs) : RCut e c cc g pre post W.drew base ok v xs := ⟨h.1, h.2.1, Kd.R_drew h.2.2⟩
theorem RCut_drewN (h : RCut e c cc g pre post W base ok v xs) (m : Nat) : RCut e c cc g pre post (W.drewN m) base ok v xs := ⟨h.1, h.2.1, Kd.R_drewN h.2.2 m⟩
theorem RCut_ok (h : RCut e c cc g pre post W base ok v xs) : ∀ k, v.ownBlock = some k → ok k := by
  intro k hk
  refine h.2.2.1 k ?_
  rw [h.1] at hk
  exact hk
theorem RCut_slice (h : RCut e c cc g pre post W base ok v xs) : ∃ A c, v = .slice A xs.length c := ⟨_, _, h.1⟩
theorem RCut_reads' {A : Option Addr} {n k : Nat} (h : RCut e c cc g pre post W base ok (.slice A n k) xs) : n = xs.length ∧ n ≤ k ∧ (Kd.int .u32).C W A xs.length xs := by
  obtain ⟨h1, h2, h3⟩ := h
  injection h1 with ha hn hk
  subst ha hn hk
  refine ⟨rfl, h2, ?_⟩
  have hC := (Kd.R_reads' h3).2.2
  have h4 := Kd.C_take (m := (pre ++ xs).length) hC (by simp)
  have e1 : (pre ++ xs ++ post).take (pre ++ xs).length = pre ++ xs := by rw [List.take_append_of_le_length (Nat.le_refl _), List.take_of_length_le (Nat.le_refl _)]
  rw [e1] at h4
  have h5 := Kd.C_drop (m := pre.length) (c := (pre ++ xs).length + 1) h4 (by simp) (by omega)
  rw [List.drop_left, if_neg (by simp; omega)] at h5
  have e2 : ((some ⟨g, 0, none⟩ : Option Addr).map (·.add (pre.length * (Kd.int .u32).sz))) = some ⟨g, pre.length, none⟩ := by
    show some ((⟨g, 0, none⟩ : Addr).add (pre.length * 1)) = _
    rw [add_plain, Nat.mul_one]
  rw [e2] at h5
  exact h5
theorem RCut_form (h : RCut e c cc g pre post W base ok v xs) (hp : 0 < xs.length) : ∃ g cap, v = .slice (some ⟨g, pre.length, none⟩) xs.length cap ∧ base ≤ g ∧ g < W.heap.size ∧ ∃ cells, W.heap[g]? = some (.cells cells e (0, 0)) := by
  obtain ⟨h1, h2, h3⟩ := h
  obtain ⟨go, co, he, hb, hl, cells, hc⟩ := Kd.R_form h3 (by simp; omega)
  injection he with ha _ _
  injection ha with ha
  injection ha with ha _ _
  subst ha
  exact ⟨g, cc, h1, hb, hl, cells, hc⟩
theorem RCut_celln {g' o n k : Nat} (d : Int) (h : RCut e c cc g pre post W base ok (.slice (some ⟨g', o, none⟩) n k) xs) (i : Int) (h0 : 0 ≤ i) (hi : i < n) : W.cell? ⟨g', pre.length + i.toNat, none⟩ = some (.int .u32 (rdOf d xs i)) ∧ W.frozen? ⟨g', pre.length + i.toNat, none⟩ = false := by
  obtain ⟨h1, h2, h3⟩ := h
  injection h1 with ha hn hk
  injection ha with ha
  injection ha with ha ho _
  subst ha hn hk ho
  have := Kd.R_celln d h3 ((pre.length : Int) + i) (by omega) (by simp; omega)
  rw [show ((pre.length : Int) + i).toNat = pre.length + i.toNat by omega] at this
  have e1 : rdOf d (pre ++ xs ++ post) ((pre.length : Int) + i) = rdOf d xs i := by
    unfold rdOf
    rw [show ((pre.length : Int) + i).toNat = pre.length + i.toNat by omega, List.append_assoc, List.getD_eq_getElem?_getD, List.getD_eq_getElem?_getD, List.getElem?_append_right (by omega), Nat.add_sub_cancel_left, List.getElem?_append_left (by omega)]
  rw [e1] at this
  exact this
theorem RCut_putg {g' o n k : Nat} (h : RCut e c cc g pre post W base ok (.slice (some ⟨g', o, none⟩) n k) xs) (i : Int) (x : Int) (hb : i.toNat < xs.length) :
    RCut e c cc g pre post (W.setCell ⟨g', pre.length + i.toNat, none⟩ (.int .u32 x)) base ok (.slice (some ⟨g', o, none⟩) n k) (xs.set i.toNat x) ∧ W.grownBy (W.setCell ⟨g', pre.length + i.toNat, none⟩ (.int .u32 x)) (some g') := by
  obtain ⟨h1, h2, h3⟩ := h
  injection h1 with ha hn hk
  injection ha with ha
  injection ha with ha ho _
  subst ha hn hk ho
  by_cases hi : 0 ≤ i
  · have h4 := Kd.R_putg h3 ((pre.length : Int) + i) x
    have e1 : (pre ++ xs ++ post).set (pre.length + i.toNat) x = pre ++ xs.set i.toNat x ++ post := by
      rw [List.append_assoc, List.append_assoc, List.set_append_right _ _ (by omega), Nat.add_sub_cancel_left, List.set_append_left _ _ hb]
    rw [show ((pre.length : Int) + i).toNat = pre.length + i.toNat by omega, e1] at h4
    refine ⟨⟨by rw [List.length_set], by rw [List.length_set]; exact h2, ?_⟩, h4.2⟩
    have e2 : (pre ++ xs.set i.toNat x ++ post).length = (pre ++ xs ++ post).length := by simp
    rw [e2]
    exact h4.1
  · have h4 := Kd.R_putg h3 (pre.length : Int) x
    have e0 : i.toNat = 0 := by omega
    have e1 : (pre ++ xs ++ post).set pre.length x = pre ++ xs.set 0 x ++ post := by
      rw [List.append_assoc, List.append_assoc, List.set_append_right _ _ (by omega), Nat.sub_self, List.set_append_left _ _ (by omega)]
    rw [e0, Nat.add_zero]
    rw [show ((pre.length : Int)).toNat = pre.length by omega, e1] at h4
    refine ⟨⟨by rw [List.length_set], by rw [List.length_set]; exact h2, ?_⟩, h4.2⟩
    have e2 : (pre ++ xs.set 0 x ++ post).length = (pre ++ xs ++ post).length := by simp
    rw [e2]
    exact h4.1
end
theorem R_make0K {α : Type} (d : Kd α) {P : Program} {ops : Array Oper} {o : Oper} {rest : List Oper} {a : Act} {Q : Exit → Act → World → Prop} {w0 W : World} (base e : Nat) (hgd : o.guard = none) {N : Tmp} (hd : o.dst = some N)
    (t : TypeId) (x y : Operand) (ho : o.op = .makeSlice t x y) (n : Int) (hx : a.eval x = .int .i64 0) (hy : a.eval y = .int .i64 n)
    (ht : P.underlying t = some (.slice e)) (z : Value) (bytes : Nat) (hinfo : (P.info? e).map (fun i => (i.zero, i.size, i.bytes)) = some (some z, d.sz, bytes)) (hz : z.cells.size = d.sz) (hs0 : 0 < d.sz) (hb0 : 0 < bytes)
    (z0 : α) {ok okp : Nat → Prop} (hzero : d.M W base okp z0 z.cells.toList) (hok : ∀ k, okp k → ok k) (hfresh : ok W.heap.size) (h0 : 0 ≤ n) (hl : n.toNat * bytes ≤ 281474976710656) (HB : Below base w0 W) (hbase : base ≤ W.heap.size)
    (h : ∀ v1 w1, d.R e w1 base ok v1 (List.replicate 0 z0) → Below base w0 w1 → W.grownBy w1 none → (∃ b, v1.ownBlock = some b ∧ W.heap.size ≤ b) → wpList P ops Q rest (a.put o.dst v1) w1) : wpList P ops Q (o :: rest) a W := by
  obtain ⟨m, rfl⟩ := Int.eq_ofNat_of_zero_le h0
  simp only [Int.toNat_natCast] at hl
  obtain ⟨i0, hi, hzz⟩ := Option.map_eq_some_iff.1 hinfo
  simp only [Prod.mk.injEq] at hzz
  obtain ⟨hz0, hz1, hz2⟩ := hzz
  have hm : m ≤ 281474976710656 := Nat.le_trans (Nat.le_mul_of_pos_right _ hb0) hl
  have hbm : i0.bytes * m ≤ 281474976710656 := by rw [hz2, Nat.mul_comm]; exact hl
  have hr := run_make (P := P) W t e i0 z ht hi hz0 .i64 .i64 0 (m : Int) (by omega) (by omega)
    (by have h3 : ((i0.bytes * m : Nat) : Int) ≤ 281474976710656 := by omega
        rwa [Int.natCast_mul] at h3) (by omega)
  obtain ⟨w', hr2, ho1, hg1⟩ := run_make_own (P := P) W base t e i0 z d.sz ht hi hz0 hz1 .i64 .i64 m hbm (by simp only [maxLen]; omega) hbase
  have hw : w' = W.alloc (.cells (madeCells z.cells (m * i0.size)) e) := by
    have h3 := hr2.symm.trans hr
    simp only [Int.toNat_natCast, Int.toNat_zero] at h3
    injection h3
  subst hw
  refine Kd.event_run hgd (show (execOp a.eval o).run P W = .ok (.value (.slice (some ⟨W.heap.size, 0, none⟩) 0 m)) (W.alloc (.cells (madeCells z.cells (m * i0.size)) e)) from ?_)
    (h _ _ ⟨fun k hk => ?_, [], ?_, ?_⟩ (HB.alloc hbase _) (World.grownBy_alloc W _ none) ⟨W.heap.size, by simp [Value.ownBlock], Nat.le_refl _⟩)
  · simp [execOp, ho, hx, hy, hr2]
  · have : W.heap.size = k := by simpa [Value.ownBlock] using hk
    subst this
    exact hfresh
  · simpa using ho1
  · exact Reps.none _ _
theorem wrap_u32_mod (n : Int) : IntKind.u32.wrap n = n % 4294967296 := by simp [IntKind.wrap, IntKind.bits, IntKind.signed]
theorem wrap_u8_mod (n : Int) : IntKind.u8.wrap n = n % 256 := by simp [IntKind.wrap, IntKind.bits, IntKind.signed]



def errW : Option Int → Value
  | none => .nilIface
  | some c => .iface 0 (.int .i64 c)
theorem errW_none : errW none = .nilIface := rfl
theorem errW_some (c : Int) : errW (some c) = .iface 0 (.int .i64 c) := rfl

theorem info5 : (Try.prog.info? 5).map (fun i => (i.zero, i.size, i.bytes)) = some (some (.int .u8 0), 1, 1) := by kernel_rfl
theorem info22 : (Try.prog.info? 22).map (fun i => (i.zero, i.size, i.bytes)) = some (some (.slice none 0 0), 1, 24) := by kernel_rfl
-- the values' own types
def rd_L1 (xs : List (List Int)) (i : Int) : (List Int) := xs.getD i.toNat ([] : List Int)
theorem at_L1 {w : World} {A : Option Addr} {n : Nat} {xs : List (List Int)} (h : Kd.C (Kd.slice 5 (Kd.int .u8)) w A n xs) (i : Int) (h0 : 0 ≤ i) (h1 : i < n) : ∃ ad A0 c0, A = some ad ∧ w.cell? (ad.add i.toNat) = some (.slice A0 (rd_L1 xs i).length c0) ∧ (rd_L1 xs i).length ≤ c0 ∧ (Kd.int .u8).C w A0 (rd_L1 xs i).length (rd_L1 xs i) := by
  obtain ⟨ad, c, e, _, hK, hc0⟩ := Kd.C_get h ([] : List Int) i h0 h1
  have hc : ∀ j u, c[j]? = some u → w.cell? (ad.add (i.toNat * 1 + j)) = some u := hc0
  obtain ⟨A0, c0, rfl, l0, g0⟩ := hK
  exact ⟨ad, A0, c0, e, by have hq := hc 0 _ rfl; rwa [Nat.mul_one, Nat.add_zero] at hq, l0, g0⟩

end Go.Proofs.Ytfgiihaefabblaa.A
