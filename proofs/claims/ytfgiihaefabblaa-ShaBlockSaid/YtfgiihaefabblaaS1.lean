import Derived.Test.YtfgiihaefabblaaAx1
import Derived.Deep.WholeRow
import Derived.Deep.RegionHeld3
namespace Go.Proofs.Ytfgiihaefabblaa.A
open Go.RowKit Go.Proofs.YtfgiihaefabblaaW.PrintWords Go.Proofs.YtfgiihaefabblaaW.PrintLast Go.Proofs.YtfgiihaefabblaaW.PrintMore
/-! ### A row of words in a block of its own -/
def ar (l : List Int) : Array Value := (l.map (Value.int .u32)).toArray
def AR (w : World) (g t n : Nat) (l : List Int) : Prop := l.length = n ∧ w.heap[g]? = some (.cells (ar l) t (0, 0))
theorem ar_size (l : List Int) : (ar l).size = l.length := by simp [ar]
theorem ar_get (l : List Int) (i : Nat) (h : i < l.length) : (ar l)[i]? = some (.int .u32 (l.getD i 0)) := by
  simp [ar, List.getD_eq_getElem?_getD, List.getElem?_eq_getElem h]
theorem ar_set (l : List Int) (i : Nat) (x : Int) : (ar l).setIfInBounds i (.int .u32 x) = ar (l.set i x) := by
  simp [ar, List.map_set]
theorem ar_one (l : List Int) : (ar l).all (·.oneCell') = true := by
  rw [Array.all_eq_true_iff_forall_mem]
  intro v hv
  simp [ar] at hv
  obtain ⟨x, _, rfl⟩ := hv
  rfl
section
variable {w w1 : World} {g t n : Nat} {l : List Int}
theorem AR.lt (h : AR w g t n l) : g < w.heap.size := by
  obtain ⟨_, h⟩ := h
  exact (Array.getElem?_eq_some_iff.1 h).1
theorem AR.cell (h : AR w g t n l) (i : Nat) (hi : i < n) : w.cell? ⟨g, i, none⟩ = some (.int .u32 (l.getD i 0)) := by
  rw [cell_of_row w g i _ t (0, 0) h.2]
  exact ar_get l i (by rw [h.1]; exact hi)
theorem AR.froz (h : AR w g t n l) (i : Nat) : w.frozen? ⟨g, i, none⟩ = false := frozen_of_row w g i _ t h.2
theorem AR.set (h : AR w g t n l) (i : Nat) (x : Int) : AR (w.setCell ⟨g, i, none⟩ (.int .u32 x)) g t n (l.set i x) := by
  refine ⟨by rw [List.length_set]; exact h.1, ?_⟩
  rw [← ar_set]
  exact heap_setCell_same w g i _ t _ h.2
theorem AR.away (h : AR w g t n l) {p : Addr} {v : Value} (hne : g ≠ p.block) : AR (w.setCell p v) g t n l := ⟨h.1, by rw [heap_setCell_other w p g v hne]; exact h.2⟩
theorem AR.drew (h : AR w g t n l) : AR w.drew g t n l := h
theorem AR.drewN (h : AR w g t n l) (m : Nat) : AR (w.drewN m) g t n l := h
theorem AR.alloc (h : AR w g t n l) (o : Obj) : AR (w.alloc o) g t n l := ⟨h.1, by rw [Below.heap_alloc w o g h.lt]; exact h.2⟩
theorem AR.below (h : AR w g t n l) (hb : Below w.heap.size w w1) : AR w1 g t n l := ⟨h.1, by rw [hb.block g h.lt]; exact h.2⟩
theorem AR.new (w : World) (t : Nat) (l : List Int) (n : Nat) (hl : l.length = n) : AR (w.alloc (.cells (ar l) t)) w.heap.size t n l := ⟨hl, heap_alloc_last w _⟩
end
/-- b[L:H]: the row's part, at a letter. -/
theorem slice_step {P : Program} {ops : Array Oper} {rest : List Oper} {o : Oper} {a : Act} {Q : Exit → Act → World → Prop} {W : World} (N : Tmp) (hgd : o.guard = none) (hd : o.dst = some N) (t : TypeId) (x lo hi : Operand) (ho : o.op = .slice t x (some lo) (some hi) none)
    (A : Option Addr) (n c : Nat) (L H : Int) (hx : a.eval x = .slice A n c) (hlo : a.eval lo = .int .i64 L) (hhi : a.eval hi = .int .i64 H) (h0 : 0 ≤ L) (h1 : L ≤ H) (h2 : H ≤ c) (e : TypeId) (ht : P.underlying t = some (.slice e)) (hs : (P.info? e).map (·.size) = some 1)
    (m k : Nat) (hm : H.toNat - L.toNat = m) (hk : c - L.toNat = k)
    (h : ∀ A', A' = (if c = L.toNat then A else A.map (·.add L.toNat)) → wpList P ops Q rest (a.put (some N) (.slice A' m k)) W) : wpList P ops Q (o :: rest) a W := by
  subst hm hk
  have he : P.elem t = e := by simp [Program.elem, ht]
  have ht' : P.underlying t = some (.slice (P.elem t)) := by rw [he]; exact ht
  have hrun : (execOp a.eval o).run P W = .ok (.value (.slice (if c = L.toNat then A else A.map (·.add L.toNat)) (H.toNat - L.toNat) (c - L.toNat))) W := by
    unfold execOp
    simp only [ho, Option.map, hx, hlo, hhi]
    rw [Sem.run_bind, run_sliceAt_slice (h := ht'), run_slice_lh (ht := ht') (h0 := h0) (h1 := h1) (h2 := h2), he]
    have hsz : (sizeOf e).run P W = .ok 1 W := by
      obtain ⟨i, hi, h1⟩ := Option.map_eq_some_iff.1 hs
      simp [sizeOf, typeInfo, hi, h1]
    rw [hsz]
    simp only [Result.andThen, sliced, Nat.mul_one]
    rfl
  refine wpList_plain hgd fun K hK => ?_
  unfold Oper.wp
  rw [hrun]
  show K (a.put o.dst _) W
  rw [hd]
  exact hK _ _ (h _ rfl)

section
variable {P : Program} {ops : Array Oper} {rest : List Oper} {o : Oper} {a : Act} {Q : Exit → Act → World → Prop} {W : World}
/-- A whole row out of its block. -/
theorem ar_load_step (N : Tmp) (hgd : o.guard = none) (hd : o.dst = some N) (ty : TypeId) (p : Operand) (ho : o.op = .load ty p) (g t n m : Nat) (l : List Int) (hp : a.eval p = .pointer (some ⟨g, 0, none⟩)) (hA : AR W g t n l)
    (e : TypeId) (hu : P.underlying ty = some (.array m e)) (hi : (P.info? ty).map (·.size) = some n) (h : wpList P ops Q rest (a.put (some N) (.agg (ar l))) W) : wpList P ops Q (o :: rest) a W := by
  have hrun : (execOp a.eval o).run P W = .ok (.value (.agg (ar l))) W := by
    unfold execOp
    simp only [ho, hp]
    rw [Sem.run_bind]
    have : (Instr.loadAt ty (.pointer (some ⟨g, 0, none⟩))).run P W = .ok (.agg (ar l)) W := by
      simp only [Instr.loadAt, Instr.sureAddr, Sem.run_bind, Sem.run_pure, Result.andThen]
      exact run_loadVar_row W g t ty (ar l) (0, 0) _ hA.2 hu rfl (by rw [hi, ar_size, hA.1])
    rw [this]
    rfl
  refine wpList_plain hgd fun K hK => ?_
  unfold Oper.wp
  rw [hrun]
  show K (a.put o.dst _) W
  rw [hd]
  exact hK _ _ h
/-- A whole row into a block. -/
theorem ar_store_step (hgd : o.guard = none) (hN : o.dst = none) (ty : TypeId) (p x : Operand) (ho : o.op = .store ty p x) (g t n : Nat) (old l : List Int) (hp : a.eval p = .pointer (some ⟨g, 0, none⟩)) (hx : a.eval x = .agg (ar l)) (hA : AR W g t n old) (hl : l.length = n)
    (hi : (P.info? ty).map (·.size) = some n) (h : ∀ W', W' = W.setRow g (ar l) → wpList P ops Q rest a W') : wpList P ops Q (o :: rest) a W := by
  have hrun : (execOp a.eval o).run P W = .ok .skip (W.setRow g (ar l)) := by
    unfold execOp
    simp only [ho, hp, hx]
    rw [Sem.run_bind]
    have : (Instr.storeAt ty (.pointer (some ⟨g, 0, none⟩)) (.agg (ar l))).run P W = .ok () (W.setRow g (ar l)) := by
      simp only [Instr.storeAt, Instr.sureAddr, Sem.run_bind, Sem.run_pure, Result.andThen]
      exact run_storeVar_row W g t ty (ar old) (ar l) hA.2 (by rw [hi, ar_size, hl]) (by rw [ar_size, ar_size, hl, hA.1]) (ar_one l)
    rw [this]
    rfl
  refine wpList_plain hgd fun K hK => ?_
  unfold Oper.wp
  rw [hrun]
  show K (a.put o.dst undef) _
  rw [hN]
  exact hK _ _ (h _ rfl)
end
section
variable {w w1 : World} {g t n : Nat} {l : List Int}
theorem AR.put (h : AR w g t n l) (l' : List Int) (hl : l'.length = n) : AR (w.setRow g (ar l')) g t n l' := by
  refine ⟨hl, ?_⟩
  simp only [World.setRow, Array.getElem?_modify, if_true, h.2]
  rfl
theorem AR.apart (h : AR w g t n l) {g' : Nat} {c : Array Value} (hne : g' ≠ g) : AR (w.setRow g' c) g t n l := by
  refine ⟨h.1, ?_⟩
  simp only [World.setRow, Array.getElem?_modify, if_neg hne, h.2]
theorem below_put {w W : World} {g : Nat} {c : Array Value} (h : Below w.heap.size w W) (hg : w.heap.size ≤ g) : Below w.heap.size w (W.setRow g c) := ⟨h.os, h.tape, h.output, by rw [setRow_size]; exact h.size, fun k hk => by rw [setRow_other _ _ _ _ (by omega)]; exact h.block k hk⟩
end
theorem ar_result {P : Program} {fn : Func} {T : Array Value} {W : World} {g t n m : Nat} {l : List Int} {N : Tmp} {ty : TypeId} (hf : fn.results = #[.cell N ty]) (hT : T.getD N undef = .pointer (some ⟨g, 0, none⟩)) (hA : AR W g t n l) (e : TypeId) (hu : P.underlying ty = some (.array m e)) (hi : (P.info? ty).map (·.size) = some n) :
    (results fn T).run P W = .ok (.agg (ar l)) W := by
  have := run_loadVar_row (P := P) W g t ty (ar l) (0, 0) _ hA.2 hu rfl (by rw [hi, ar_size, hA.1])
  simp only [results, hf]
  have hT2 : T[N]?.getD undef = .pointer (some ⟨g, 0, none⟩) := by rw [← hT]; simp [Array.getD_eq_getD_getElem?]
  simp [Sem.run_bind, Result.andThen, hT2, asAddr, this]
/-! ### A word turned -/
def tn (x n : Int) : Int := Go.bits .or .u32 (shl .u32 x (32 - n)) (shr .u32 x n)
theorem tf (x n : Int) (hc : Go.bits .and .u64 (IntKind.u64.wrap (wrap64 (-n))) 31 = 32 - n) (h1 : 0 ≤ 32 - n) (h2 : IntKind.u64.wrap (32 - (32 - n)) = n) (h3 : 0 ≤ n) : sha_turn.f x n = some (tn x n) := by
  unfold sha_turn.f bits_RotateLeft32.f tn
  rw [hc, if_pos h1, h2, if_pos h3]
  rfl
theorem tn2 (x : Int) : sha_turn.f x 2 = some (tn x 2) := tf x 2 (by decide +kernel) (by decide) (by decide +kernel) (by decide)
theorem tn6 (x : Int) : sha_turn.f x 6 = some (tn x 6) := tf x 6 (by decide +kernel) (by decide) (by decide +kernel) (by decide)
theorem tn7 (x : Int) : sha_turn.f x 7 = some (tn x 7) := tf x 7 (by decide +kernel) (by decide) (by decide +kernel) (by decide)
theorem tn11 (x : Int) : sha_turn.f x 11 = some (tn x 11) := tf x 11 (by decide +kernel) (by decide) (by decide +kernel) (by decide)
theorem tn13 (x : Int) : sha_turn.f x 13 = some (tn x 13) := tf x 13 (by decide +kernel) (by decide) (by decide +kernel) (by decide)
theorem tn17 (x : Int) : sha_turn.f x 17 = some (tn x 17) := tf x 17 (by decide +kernel) (by decide) (by decide +kernel) (by decide)
theorem tn18 (x : Int) : sha_turn.f x 18 = some (tn x 18) := tf x 18 (by decide +kernel) (by decide) (by decide +kernel) (by decide)
theorem tn19 (x : Int) : sha_turn.f x 19 = some (tn x 19) := tf x 19 (by decide +kernel) (by decide) (by decide +kernel) (by decide)
theorem tn22 (x : Int) : sha_turn.f x 22 = some (tn x 22) := tf x 22 (by decide +kernel) (by decide) (by decide +kernel) (by decide)
theorem tn25 (x : Int) : sha_turn.f x 25 = some (tn x 25) := tf x 25 (by decide +kernel) (by decide) (by decide +kernel) (by decide)

/-! ### The words of a block -/
def bw (a c : Int) : Int := Go.bits .or .u32 (a * 256 % 4294967296) (c % 4294967296)
/-- word t after j of its bytes -/
def pw (b : List Int) (t : Nat) : Nat → Int
  | 0 => 0
  | j + 1 => bw (pw b t j) (rd b ((4 * t + j : Nat) : Int))
def s0 (x : Int) : Int := Go.bits .xor .u32 (Go.bits .xor .u32 (tn x 7) (tn x 18)) (x / 8)
def s1 (x : Int) : Int := Go.bits .xor .u32 (Go.bits .xor .u32 (tn x 17) (tn x 19)) (x / 1024)
def ad (a b : Int) : Int := IntKind.u32.wrap (a + b)
def gw (ws : List Int) (i : Nat) : Int := ws.getD i 0
def nx (ws : List Int) (t : Nat) : Int := ad (ad (ad (gw ws (t - 16)) (s0 (gw ws (t - 15)))) (gw ws (t - 7))) (s1 (gw ws (t - 2)))
def sp (b : List Int) : Nat → List Int
  | 0 => List.replicate 64 0
  | t + 1 => (sp b t).set t (if t < 16 then pw b t 4 else nx (sp b t) t)
theorem sp_len (b : List Int) : ∀ t, (sp b t).length = 64
  | 0 => by simp [sp]
  | t + 1 => by rw [sp, List.length_set]; exact sp_len b t
theorem sp_zero (b : List Int) : ∀ t i, t ≤ i → (sp b t).getD i 0 = 0
  | 0, i, _ => by
    rw [sp, List.getD_eq_getElem?_getD, List.getElem?_replicate]
    split <;> rfl
  | t + 1, i, h => by
    have := sp_zero b t i (by omega)
    rw [sp, List.getD_eq_getElem?_getD, List.getElem?_set_ne (by omega), ← List.getD_eq_getElem?_getD]
    exact this
theorem sp_set0 (b : List Int) (t : Nat) (h : t < 64) : (sp b t).set t 0 = sp b t := by
  apply List.ext_getElem?
  intro i
  by_cases hi : i = t
  · subst hi
    rw [List.getElem?_set_self (by rw [sp_len]; exact h)]
    have := sp_zero b i i (Nat.le_refl _)
    rw [List.getD_eq_getElem?_getD, List.getElem?_eq_getElem (by rw [sp_len]; exact h)] at this
    rw [List.getElem?_eq_getElem (by rw [sp_len]; exact h)]
    exact congrArg some this.symm
  · rw [List.getElem?_set_ne (Ne.symm hi)]
theorem set_get (l : List Int) (i : Nat) (x : Int) (h : i < l.length) : (l.set i x).getD i 0 = x := by
  rw [List.getD_eq_getElem?_getD, List.getElem?_set_self h]
  rfl
/-- A whole number as the walk spells it. -/
theorem i64_of (a : Int) (h1 : -9223372036854775808 ≤ a) (h2 : a ≤ 9223372036854775807) : IntKind.i64.wrap a = a := by
  rw [i64_w]; unfold wrap64; omega
theorem part_at {w : World} {A : Option Addr} {l : List Int} {c : Nat} (h : Kd.C (Kd.int .u8) w A l.length l) (hc : l.length ≤ c) (t j : Nat) (A' : Option Addr) (hA : A' = if c = 4 * t then A else A.map (·.add (4 * t))) (ht : 4 * t + 4 ≤ l.length) (hj : j < 4) :
    ∃ ad, A' = some ad ∧ w.cell? (ad.add j) = some (.int .u8 (rd l ((4 * t + j : Nat) : Int))) := by
  have hd := Kd.C_drop (m := 4 * t) (c := c) h (by omega) hc
  have hsz : (Kd.int IntKind.u8).sz = 1 := rfl
  rw [hsz, Nat.mul_one, ← hA] at hd
  obtain ⟨ad, e, hx⟩ := Kd.at_int hd (j : Int) (by omega) (by rw [List.length_drop]; omega)
  refine ⟨ad, e, ?_⟩
  rw [Int.toNat_natCast] at hx
  rw [hx]
  congr 2
  unfold rd
  rw [Int.toNat_natCast, Int.toNat_natCast, List.getD_eq_getElem?_getD, List.getD_eq_getElem?_getD, List.getElem?_drop]
end Go.Proofs.Ytfgiihaefabblaa.A
