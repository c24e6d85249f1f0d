import Derived.Test.YtfgiihaefabblaaSc
namespace Go.Proofs.Ytfgiihaefabblaa.A
open Go.RowKit Go.Proofs.YtfgiihaefabblaaW.PrintWords Go.Proofs.YtfgiihaefabblaaW.PrintLast Go.Proofs.YtfgiihaefabblaaW.PrintMore
set_option linter.unusedVariables false
/-! ### The digest of bytes that are padded -/
def iv : List Int := [1779033703, 3144134277, 1013904242, 2773480762, 1359893119, 2600822924, 528734635, 1541459225]
def blks : Nat → List Int → List Int → List Int
  | 0, h, _ => h
  | m + 1, h, x => blks m (blockF h (x.take 64)) (x.drop 64)
def wb (x : Int) : List Int := [x / 16777216 % 256, x / 65536 % 256, x / 256 % 256, x % 256]
def outP (h : List Int) : Nat → List Int
  | 0 => []
  | j + 1 => outP h j ++ wb (gw h j)
def digF (x : List Int) : List Int := outP (blks (x.length / 64) iv x) 8
def bytesB (x : List Int) : Bool := x.all fun c => decide (0 ≤ c) && decide (c < 256)
def digO (x : List Int) : Option (List Int) := if x.length % 64 = 0 then (if x.length < 1000000000 then some (digF x) else none) else none
def digR (x : List Int) : Option (List Int) := if bytesB x = true then digO x else none
theorem digO_some {x r : List Int} (h : digO x = some r) : ∃ m, x.length = 64 * m ∧ m < 20000000 ∧ r = outP (blks m iv x) 8 := by
  unfold digO at h
  split at h
  · split at h
    · rename_i h1 h2
      refine ⟨x.length / 64, by omega, by omega, ?_⟩
      injection h with h
      exact h.symm
    · cases h
  · cases h
theorem digR_some {x r : List Int} (h : digR x = some r) : bytesB x = true ∧ digO x = some r := by
  unfold digR at h
  split at h
  · exact ⟨by assumption, h⟩
  · cases h
theorem blks_len : ∀ (m : Nat) (h x : List Int), h.length = 8 → (blks m h x).length = 8
  | 0, _, _, hh => hh
  | m + 1, h, x, hh => blks_len m _ _ (block_len h _ hh)
theorem outP_len (h : List Int) : ∀ j, (outP h j).length = 4 * j
  | 0 => rfl
  | j + 1 => by rw [outP, List.length_append, outP_len h j]; rfl
theorem bytes_rd {x : List Int} (h : bytesB x = true) (i : Int) : 0 ≤ rd x i ∧ rd x i < 256 := by
  unfold rd
  rw [List.getD_eq_getElem?_getD]
  cases e : x[i.toNat]? with
  | none => exact ⟨by simp, by simp⟩
  | some v =>
    have := List.all_eq_true.1 h v (List.mem_of_getElem? e)
    simpa using this
theorem bytes_take {x : List Int} (h : bytesB x = true) (n : Nat) : bytesB (x.take n) = true := List.all_eq_true.2 fun v hv => List.all_eq_true.1 h v (List.mem_of_mem_take hv)
theorem bytes_drop {x : List Int} (h : bytesB x = true) (n : Nat) : bytesB (x.drop n) = true := List.all_eq_true.2 fun v hv => List.all_eq_true.1 h v (List.mem_of_mem_drop hv)
theorem eight {l : List Int} (h : l.length = 8) : ∃ a b c d e f g i, l = [a, b, c, d, e, f, g, i] := by
  match l, h with
  | [a, b, c, d, e, f, g, i], _ => exact ⟨a, b, c, d, e, f, g, i, rfl⟩
section
variable {P : Program} {ops : Array Oper} {rest : List Oper} {o : Oper} {a : Act} {Q : Exit → Act → World → Prop} {W : World}
/-- a[i] of a row of words that is a value. -/
theorem index_step (N : Tmp) (hgd : o.guard = none) (hd : o.dst = some N) (ty : TypeId) (x ix : Operand) (ho : o.op = .index ty x ix) (l : List Int) (n : Nat) (e : TypeId) (i : Int) (hx : a.eval x = .agg (ar l)) (hi : a.eval ix = .int .i64 i)
    (hu : P.underlying ty = some (.array n e)) (hs : (P.info? e).map (·.size) = some 1) (he : P.underlying e = some (.int .u32)) (hl : l.length = n) (h0 : 0 ≤ i) (h1 : i < n)
    (h : wpList P ops Q rest (a.put (some N) (.int .u32 (l.getD i.toNat 0))) W) : wpList P ops Q (o :: rest) a W := by
  have hsz : (sizeOf e).run P W = .ok 1 W := by
    obtain ⟨z, hz, h1⟩ := Option.map_eq_some_iff.1 hs
    simp [sizeOf, typeInfo, hz, h1]
  have hrun : (execOp a.eval o).run P W = .ok (.value (.int .u32 (l.getD i.toNat 0))) W := by
    unfold execOp
    simp only [ho, hx, hi]
    rw [Sem.run_bind]
    have : (Instr.index ty (.agg (ar l)) (.int .i64 i)).run P W = .ok (.int .u32 (l.getD i.toNat 0)) W := by
      simp only [Instr.index, asIntOf, Sem.run_bind, Sem.run_pure, Result.andThen, run_underlying hu]
      rw [if_pos ⟨h0, h1⟩]
      simp only [Sem.run_bind, hsz, Result.andThen, Nat.mul_one]
      have hg := ar_get l i.toNat (by omega)
      simp [part, isAgg, run_underlying he, Sem.run_bind, Result.andThen, hg]
    rw [this]
    rfl
  refine wpList_plain hgd fun K hK => ?_
  unfold Oper.wp
  rw [hrun]
  show K (a.put o.dst _) W
  rw [hd]
  exact hK _ _ h
theorem index_step_at (N : Tmp) (hgd : o.guard = none) (hd : o.dst = some N) (ty : TypeId) (x ix : Operand) (ho : o.op = .index ty x ix) (l : List Int) (n : Nat) (e : TypeId) (i : Int) (X : Int) (hX : l.getD i.toNat 0 = X) (hx : a.eval x = .agg (ar l)) (hi : a.eval ix = .int .i64 i)
    (hu : P.underlying ty = some (.array n e)) (hs : (P.info? e).map (·.size) = some 1) (he : P.underlying e = some (.int .u32)) (hl : l.length = n) (h0 : 0 ≤ i) (h1 : i < n)
    (h : wpList P ops Q rest (a.put (some N) (.int .u32 X)) W) : wpList P ops Q (o :: rest) a W := by
  subst hX
  exact index_step N hgd hd ty x ix ho l n e i hx hi hu hs he hl h0 h1 h
/-- b[L:]: the row's rest, at a letter. -/
theorem slice_from_step (N : Tmp) (hgd : o.guard = none) (hd : o.dst = some N) (t : TypeId) (x lo : Operand) (ho : o.op = .slice t x (some lo) none none)
    (A : Option Addr) (n c : Nat) (L : Nat) (hx : a.eval x = .slice A n c) (hlo : a.eval lo = .int .i64 (L : Int)) (h1 : L ≤ n) (h2 : n ≤ c) (e : TypeId) (ht : P.underlying t = some (.slice e)) (hs : (P.info? e).map (·.size) = some 1)
    (h : ∀ A', A' = (if c = L then A else A.map (·.add L)) → wpList P ops Q rest (a.put (some N) (.slice A' (n - L) (c - L))) W) : wpList P ops Q (o :: rest) a W := by
  have he : P.elem t = e := by simp [Program.elem, ht]
  have ht' : P.underlying t = some (.slice (P.elem t)) := by rw [he]; exact ht
  have hrun : (execOp a.eval o).run P W = .ok (.value (.slice (if c = L then A else A.map (·.add L)) (n - L) (c - L))) W := by
    unfold execOp
    simp only [ho, Option.map, hx, hlo]
    rw [Sem.run_bind, run_sliceAt_slice (h := ht'), run_slice_l (ht := ht') (h0 := Int.natCast_nonneg L) (h1 := by omega), he]
    have hsz : (sizeOf e).run P W = .ok 1 W := by
      obtain ⟨i, hi, h1⟩ := Option.map_eq_some_iff.1 hs
      simp [sizeOf, typeInfo, hi, h1]
    rw [hsz]
    simp only [Result.andThen, sliced, Nat.mul_one, Int.toNat_natCast]
    rfl
  refine wpList_plain hgd fun K hK => ?_
  unfold Oper.wp
  rw [hrun]
  show K (a.put o.dst _) W
  rw [hd]
  exact hK _ _ (h _ rfl)
end
/-- A row that was just made reads as what was laid. -/
theorem C_lit (k : IntKind) (l : List Int) (w : World) (t : Nat) (hl : 0 < l.length) (hm : l.length ≤ 9223372036854775807) : Kd.C (Kd.int k) (w.alloc (.cells (l.map (Value.int k)).toArray t)) (some ⟨w.heap.size, 0, none⟩) l.length l := by
  refine ⟨rfl, hm, fun _ => ⟨_, rfl, fun j p hj => ⟨[.int k p], rfl, rfl, fun i u hi => ?_⟩⟩⟩
  cases i with
  | zero =>
    obtain rfl := Option.some.inj hi
    have e : (w.alloc (.cells (l.map (Value.int k)).toArray t)).heap[w.heap.size]? = some (.cells (l.map (Value.int k)).toArray t) := by
      show (w.heap.push _)[w.heap.size]? = _
      simp
    rw [add_off]
    unfold World.cell?
    rw [e]
    have hs : (Kd.int k).sz = 1 := rfl
    rw [hs, Nat.mul_one]
    simp [hj]
  | succ i => exact absurd hi (by simp)
end Go.Proofs.Ytfgiihaefabblaa.A
