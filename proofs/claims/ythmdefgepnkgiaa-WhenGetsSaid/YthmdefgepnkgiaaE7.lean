/- What an operation that makes a row or a struct tells is what the machine comes to. Conditions: the relation between the two states; the types' table is the program's. -/
import Derived.Test.YthmdefgepnkgiaaE6
import Derived.Great.BuildSlice
namespace Go.Proofs.Ythmdefgepnkgiaa.Eng
open Go
/-! ### Rows out of cells -/
theorem flat_get {α : Type} {z : Nat} : ∀ (rows : List (List α)), (∀ row ∈ rows, row.length = z) → ∀ (i : Nat) (row : List α) (j : Nat) (x : α), rows[i]? = some row → row[j]? = some x → rows.flatten[i * z + j]? = some x
  | [], _, i, row, j, x, h, _ => by simp at h
  | r :: rows, hz, 0, row, j, x, h, hj => by
    simp at h; subst h
    have := (List.getElem?_eq_some_iff.1 hj).1
    simp only [Nat.zero_mul, Nat.zero_add, List.flatten_cons]
    rw [List.getElem?_append_left this]; exact hj
  | r :: rows, hz, i + 1, row, j, x, h, hj => by
    have hr := hz r (by simp)
    have ih := flat_get rows (fun q hq => hz q (by simp [hq])) i row j x (by simpa using h) hj
    simp only [List.flatten_cons]
    rw [List.getElem?_append_right (by rw [hr, Nat.succ_mul]; omega), hr, show (i + 1) * z + j - z = i * z + j by rw [Nat.succ_mul]; omega]
    exact ih
theorem flat_len {α : Type} {z : Nat} : ∀ (rows : List (List α)), (∀ row ∈ rows, row.length = z) → rows.flatten.length = rows.length * z
  | [], _ => by simp
  | r :: rows, hz => by
    simp only [List.flatten_cons, List.length_append, List.length_cons]
    rw [hz r (by simp), flat_len rows (fun q hq => hz q (by simp [hq])), Nat.succ_mul]; omega
theorem intsIn_flat {k : IntKind} : ∀ {rows : List (List DV)} {l : List Int}, intsIn k rows = some l → rows = l.map fun n => [DV.int k n]
  | [], l, h => by obtain rfl := Option.some.inj h; rfl
  | [.int k' n] :: r, l, h => by
    simp only [intsIn] at h
    obtain ⟨hk, h⟩ := b_true h
    obtain rfl : k' = k := by simpa using hk
    split at h
    · rename_i l' hl'
      obtain rfl := Option.some.inj h
      rw [intsIn_flat hl']; rfl
    · cases h
  | [] :: r, l, h => by simp [intsIn] at h
  | [.bool _] :: r, l, h => by simp [intsIn] at h
  | [.str _] :: r, l, h => by simp [intsIn] at h
  | [.ints _ _] :: r, l, h => by simp [intsIn] at h
  | [.sl _ _] :: r, l, h => by simp [intsIn] at h
  | (_ :: _ :: _) :: r, l, h => by simp [intsIn] at h
theorem rowOf_shape {i : TI} {rows : List (List DV)} {x : DV} (h : rowOf i rows = some x) : x.len = rows.length ∧ x.sz = i.size ∧ 0 < i.size ∧ (∀ row ∈ rows, row.length = i.size) := by
  unfold rowOf at h
  split at h
  · obtain ⟨hs, h⟩ := b_true h
    have hs := beq_true hs
    split at h
    · rename_i l hl
      obtain rfl := Option.some.inj h
      rw [intsIn_flat hl]
      refine ⟨by simp [DV.len], by simp [DV.sz, hs], by omega, fun row hr => ?_⟩
      obtain ⟨n, _, rfl⟩ := List.mem_map.1 hr
      simp [hs]
    · cases h
  · cases hs : Nat.beq i.size 0
    · rw [hs] at h
      have hs := beq_false hs
      obtain ⟨hr, h⟩ := b_true h
      obtain rfl := Option.some.inj h
      exact ⟨rfl, rfl, by omega, fun row hq => beq_true (List.all_eq_true.1 hr row hq)⟩
    · rw [hs] at h; cases h
theorem rowOf_rep {i : TI} {rows : List (List DV)} {x : DV} (h : rowOf i rows = some x) {S : Nat → Nat} {w : World} {vs : List Value} (hv : All2 (RepD S w) rows.flatten vs) {b o c : Nat}
    (hc : ∀ (j : Nat) (v : Value), vs[j]? = some v → w.cell? ⟨b, o + j, none⟩ = some v) (hS : o + rows.length * i.size ≤ S b) (hl : rows.length ≤ c) : RepD S w x (.slice (some ⟨b, o, none⟩) rows.length c) := by
  have hsh := rowOf_shape h
  unfold rowOf at h
  split at h
  · rename_i k _
    obtain ⟨hs, h⟩ := b_true h
    have hs := beq_true hs
    split at h
    · rename_i l hl'
      obtain rfl := Option.some.inj h
      have hr := intsIn_flat hl'
      have hlen : rows.length = l.length := by rw [hr]; simp
      rw [hlen]
      refine .ints k l b o c (by omega) (by rw [hs, hlen] at hS; omega) fun j n hj => ?_
      have hf : rows.flatten[j]? = some (.int k n) := by
        have := flat_get (z := 1) rows (by rw [hr]; intro row hq; obtain ⟨n, _, rfl⟩ := List.mem_map.1 hq; rfl) j [.int k n] 0 (.int k n) (by rw [hr, List.getElem?_map, hj]; rfl) rfl
        simpa using this
      obtain ⟨v, hv', hrep⟩ := hv.get _ _ hf
      cases hrep
      exact hc j _ hv'
    · cases h
  · cases hs : Nat.beq i.size 0
    · rw [hs] at h
      obtain ⟨hr, h⟩ := b_true h
      obtain rfl := Option.some.inj h
      have hlen := hv.length
      rw [flat_len rows hsh.2.2.2] at hlen
      refine .sl i.size rows b o c (fun j => vs.getD j undef) hsh.2.2.1 hl hS hsh.2.2.2 (fun j hj => ?_) (fun ii row j y hii hj => ?_)
      · have : vs[j]? = some (vs.getD j undef) := by
          rw [List.getD_eq_getElem?_getD, List.getElem?_eq_getElem (by omega)]; rfl
        exact hc j _ this
      · obtain ⟨v, hv', hrep⟩ := hv.get _ _ (flat_get rows hsh.2.2.2 ii row j y hii hj)
        rw [List.getD_eq_getElem?_getD, hv']; exact hrep
    · rw [hs] at h; cases h
/-- A row that has just been laid. -/
theorem own_new {E : Ent} {g : Gh} {w : World} (ok : OKW E g w) {i : TI} {rows : List (List DV)} {x : DV} (h : rowOf i rows = some x) {arr : Array Value} {e : TypeId} {vs : List Value} (hv : All2 (RepD g.S w) rows.flatten vs)
    (ha : ∀ (j : Nat) (v : Value), vs[j]? = some v → arr[j]? = some v) {c : Nat} (hl : rows.length ≤ c) (hs : arr.size = c * i.size) (t : Nat) :
    RepC (g.new w.heap.size (rows.length * i.size) (some (.tok t))) (w.alloc (.cells arr e)) (.own t x) (.slice (some ⟨w.heap.size, 0, none⟩) rows.length c) := by
  have hsh := rowOf_shape h
  have hx := ext_new ok (.cells arr e) (rows.length * i.size) (some (.tok t))
  refine ⟨rowOf_rep h (All2.mono (fun _ _ => RepD.mono hx) hv) (fun j v hj => ?_) ?_ hl, .inr ⟨w.heap.size, c, arr, e, ?_, ?_, ?_, ?_, ?_, ?_⟩⟩
  · rw [Nat.zero_add, World.cell?_alloc_new]; exact ha j v hj
  · simp [Gh.new, upd_same]
  · rw [hsh.1]
  · simp [Gh.new, upd_same]
  · exact heap_alloc_new _ _
  · rw [hsh.1]; exact hl
  · rw [hsh.2.1]; exact hs
  · rw [hsh.1, hsh.2.1]; simp [Gh.new, upd_same]
/-! ### Cells set one behind the other -/
theorem setAt_length {α : Type} : ∀ (vs : List α) (cells : List α) (o : Nat), (setAt cells o vs).length = cells.length
  | [], _, _ => rfl
  | v :: r, cells, o => by rw [setAt, setAt_length r]; simp
theorem setAt_mid {α : Type} : ∀ (vs done rest : List α), vs.length ≤ rest.length → setAt (done ++ rest) done.length vs = done ++ vs ++ rest.drop vs.length
  | [], done, rest, _ => by simp [setAt]
  | v :: r, done, [], h => by simp at h
  | v :: r, done, x :: rest, h => by
    rw [setAt]
    have : (done ++ x :: rest).set done.length v = (done ++ [v]) ++ rest := by simp
    rw [this, show done.length + 1 = (done ++ [v]).length by simp, setAt_mid r (done ++ [v]) rest (by simpa using h)]
    simp
theorem All2.setAt {α β : Type} {R : α → β → Prop} : ∀ {cs : List α} {vs : List β}, All2 R cs vs → ∀ {l : List α} {m : List β} (o : Nat), All2 R l m → All2 R (Eng.setAt l o cs) (Eng.setAt m o vs) := by
  intro cs vs h
  induction h with
  | nil => exact fun _ h => h
  | cons h _ ih => exact fun o hl => ih (o + 1) (hl.set o _ _ h)
theorem foldl_setAt (off : Nat) : ∀ (vs : List Value) (k : Nat) (arr : Array Value), ((vs.zipIdx k).foldl (fun cs (x : Value × Nat) => cs.setIfInBounds (off + x.2) x.1) arr).toList = setAt arr.toList (off + k) vs
  | [], _, _ => rfl
  | v :: r, k, arr => by
    simp only [List.zipIdx_cons, List.foldl_cons]
    rw [foldl_setAt off r (k + 1), setAt]
    simp [Nat.add_assoc]
theorem fill_step (place : Nat → Option (Nat × Nat)) (cells : Array Value) (i : Nat) (v : Value) (rest : List (Nat × Value)) (off size : Nat) (hp : place i = some (off, size)) (h1 : v.cells.size = size) (h2 : off + size ≤ cells.size) :
    Instr.fill place cells ((i, v) :: rest) = Instr.fill place (setAt cells.toList off v.cells.toList).toArray rest := by
  have h3 : (decide (v.cells.size ≠ size) || decide (off + v.cells.size > cells.size)) = false := by simp; omega
  rw [Instr.fill, hp]
  simp only [h3, Bool.false_eq_true, if_false]
  congr 1
  apply Array.ext'
  have := foldl_setAt off v.cells.toList 0 cells
  simp only [Nat.add_zero] at this
  rw [← this]
  rw [← Array.foldl_toList]
  simp
/-- The parts of a written row, in order, fill it. -/
theorem fill_seq (size : Nat) : ∀ (vs : List Value) (k : Nat) (done rest : List Value), (∀ v ∈ vs, v.cells.size = size) → done.length = k * size → rest.length = vs.length * size →
    Instr.fill (fun i => some (i * size, size)) (done ++ rest).toArray ((vs.zipIdx k).map fun x => (x.2, x.1)) = some (done ++ vs.flatMap (·.cells.toList)).toArray
  | [], _, done, rest, _, _, hr => by
    have : rest = [] := List.eq_nil_of_length_eq_zero (by simpa using hr)
    subst this
    simp [Instr.fill]
  | v :: vs, k, done, rest, hv, hd, hr => by
    have h1 := hv v (by simp)
    have hlen : (v :: vs).length * size = size + vs.length * size := by rw [List.length_cons, Nat.succ_mul]; omega
    rw [hlen] at hr
    simp only [List.zipIdx_cons, List.map_cons]
    rw [fill_step _ _ k v _ (k * size) size rfl h1 (by simp; omega)]
    have := setAt_mid v.cells.toList done rest (by simp; omega)
    rw [hd] at this
    rw [this]
    rw [fill_seq size vs (k + 1) (done ++ v.cells.toList) (rest.drop v.cells.toList.length) (fun u hu => hv u (by simp [hu])) (by simp [hd, h1, Nat.succ_mul]) (by simp [h1]; omega)]
    simp
section
variable {P : Program} {X : Ctx} {E : Ent} {g : Gh} {s : St} {a : Act} {w : World} {o : Oper} {r : AV}
theorem allD_ok : ∀ {cs : List CV} {row : List DV} {vs : List Value}, allD cs = some row → All2 (RepK g w) cs vs → All2 (RepD g.S w) row vs
  | [], row, vs, h, hk => by obtain rfl := Option.some.inj h; cases hk; exact .nil
  | c :: cs, row, vs, h, hk => by
    simp only [allD] at h
    split at h
    case h_2 => cases h
    rename_i x hx
    split at h
    case h_2 => cases h
    rename_i l hl
    obtain rfl := Option.some.inj h
    cases hk with
    | cons h1 h2 => exact .cons (RepC.dv h1.1 hx) (allD_ok hl h2)
theorem allD_sure : ∀ {cs : List CV} {row : List DV}, allD cs = some row → cs.all CV.sure = true ∧ cs.length = row.length
  | [], row, h => by obtain rfl := Option.some.inj h; exact ⟨rfl, rfl⟩
  | c :: cs, row, h => by
    simp only [allD] at h
    split at h
    case h_2 => cases h
    rename_i x hx
    split at h
    case h_2 => cases h
    rename_i l hl
    obtain rfl := Option.some.inj h
    have := allD_sure hl
    refine ⟨?_, by simp [this.2]⟩
    rw [List.all_cons, this.1]
    cases c <;> simp [CV.dv] at hx <;> rfl
theorem parts_ok (h : Rel E g s a w) {T : TypeId} : ∀ {parts : List (Nat × Operand)} {j : Nat} {rows : List (List DV)}, partsOf X s T j parts = some rows →
    ∃ vs : List Value, (parts.map fun p => (p.1, a.eval p.2)) = (vs.zipIdx j).map (fun x => (x.2, x.1)) ∧ vs.length = rows.length ∧ All2 (fun (row : List DV) (v : Value) => v.cells.size = row.length ∧ All2 (RepD g.S w) row v.cells.toList) rows vs
  | [], j, rows, e => by obtain rfl := Option.some.inj e; exact ⟨[], rfl, rfl, .nil⟩
  | (i, x) :: parts, j, rows, e => by
    simp only [partsOf] at e
    obtain ⟨hij, e⟩ := b_true e
    obtain rfl := beq_true hij
    split at e
    case h_2 => cases e
    rename_i ag cs hx
    split at e
    case h_2 => cases e
    rename_i row hrow
    split at e
    case h_2 => cases e
    rename_i l hl
    obtain rfl := Option.some.inj e
    obtain ⟨vs, h1, h2, h3⟩ := parts_ok h hl
    have hs := allD_sure hrow
    have hc := cells_ok (ev_ok h hx) hs.1
    refine ⟨a.eval x :: vs, by simp [List.zipIdx_cons, h1], by simp [h2], .cons ⟨?_, allD_ok hrow hc⟩ h3⟩
    rw [← hs.2, hc.length]; simp
theorem rows_flat {rows : List (List DV)} {vs : List Value} (h : All2 (fun (row : List DV) (v : Value) => v.cells.size = row.length ∧ All2 (RepD g.S w) row v.cells.toList) rows vs) : All2 (RepD g.S w) rows.flatten (vs.flatMap (·.cells.toList)) := by
  induction h with
  | nil => exact .nil
  | cons h _ ih => simpa using h.2.append ih
/-- A row that the operation lays anew. -/
def VN (P : Program) (o : Oper) (a : Act) (g : Gh) (w : World) (r : AV) : Prop :=
  ∃ (i : TI) (rows : List (List DV)) (x : DV) (vs : List Value) (arr : Array Value) (e : TypeId) (c t : Nat), r = .c (.own t x) ∧ rowOf i rows = some x ∧ All2 (RepD g.S w) rows.flatten vs ∧
    (∀ (j : Nat) (v : Value), vs[j]? = some v → arr[j]? = some v) ∧ rows.length ≤ c ∧ arr.size = c * i.size ∧ (execOp a.eval o).run P w = .ok (.value (.slice (some ⟨w.heap.size, 0, none⟩) rows.length c)) (w.alloc (.cells arr e))
theorem VN.V (ok : OKW E g w) (h : VN P o a g w r) : V P o a g w r := by
  obtain ⟨i, rows, x, vs, arr, e, c, t, rfl, hx, hv, ha, hl, hs, hrun⟩ := h
  exact ⟨_, _, g.new w.heap.size (rows.length * i.size) (some (.tok t)), hrun, Stay.new ok _ _ _, RepA.c (own_new ok hx hv ha hl hs t)⟩
theorem new_buildSlice (hty : ∀ t i, X.ty t = some i → TyOK P t i) (h : Rel E g s a w) {T : TypeId} {n : Nat} {parts : Array (Nat × Operand)} (ho : o.op = .buildSlice T n parts) (e : valF X o s some = some r) : VN P o a g w r := by
  unfold valF at e
  simp only [ho] at e
  split at e
  case h_2 => cases e
  rename_i i hi
  split at e
  case h_2 => cases e
  rename_i el hel
  split at e
  case h_2 => cases e
  rename_i ei rows hei hrows
  obtain ⟨hb, e⟩ := b_true e
  simp only [Bool.and_eq_true] at hb
  obtain ⟨⟨hn, hsm⟩, h1⟩ := hb
  have hn := beq_true hn
  have hsm := ble_true hsm
  have hzl := beq_true h1
  split at e
  case h_2 => cases e
  rename_i x hx
  obtain rfl := Option.some.inj e
  have hu := (hty _ _ hi).und
  have hd : i.desc = .slice el := by
    unfold TI.elem? at hel
    split at hel
    · rename_i hq; obtain rfl := Option.some.inj hel; exact hq
    · cases hel
  rw [hd] at hu
  obtain ⟨f, hf, hfs, hfb, hfz⟩ := (hty _ _ hei).inf
  obtain ⟨vs, hv1, hv2, hv3⟩ := parts_ok h hrows
  have hsh := rowOf_shape hx
  have hvs : ∀ v ∈ vs, v.cells.size = ei.size := by
    intro v hv
    obtain ⟨j, hj, hjv⟩ := List.mem_iff_getElem.1 hv
    have hlt : j < rows.length := by omega
    obtain ⟨u, hu', hr⟩ := hv3.get j rows[j] (List.getElem?_eq_getElem hlt)
    rw [List.getElem?_eq_getElem hj] at hu'
    have : u = v := by rw [← hjv]; exact (Option.some.inj hu').symm
    subst this
    rw [hr.1]; exact hsh.2.2.2 _ (List.getElem_mem hlt)
  have hflat := rows_flat hv3
  have hrun : ∀ cells : Array Value, cells.toList = vs.flatMap (·.cells.toList) → (Instr.buildSlice T n (parts.map fun (i, x) => (i, a.eval x))).run P w = .ok (.slice (some ⟨w.heap.size, 0, none⟩) n n) (w.alloc (.cells cells el)) → VN P o a g w (.c (.own (tk (o.dst.getD 0) 0) x)) := by
    intro cells hc hr
    refine ⟨ei, rows, x, _, cells, el, rows.length, _, rfl, hx, hflat, ?_, Nat.le_refl _, ?_, ?_⟩
    · intro j v hj
      rw [← Array.getElem?_toList, hc]; exact hj
    · rw [← Array.length_toList, hc, ← hflat.length, flat_len rows hsh.2.2.2]
    · rw [hn]
      simp [execOp, ho, hr]
  have hparts : (parts.map fun (p : Nat × Operand) => (p.1, a.eval p.2)).toList = (vs.zipIdx 0).map (fun x => (x.2, x.1)) := by rw [Array.toList_map]; exact hv1
  by_cases hn0 : n = 0
  · subst hn0
    have hvs0 : vs = [] := List.eq_nil_of_length_eq_zero (by omega)
    subst hvs0
    have hp0 : (parts.map fun (p : Nat × Operand) => (p.1, a.eval p.2)) = #[] := Array.ext' (by rw [hparts]; rfl)
    refine hrun #[] rfl ?_
    simp only [hp0]
    simp [Instr.buildSlice, run_underlying hu, sizeOf, typeInfo, hf, newRow, Instr.fill]
    exact congrArg (fun c => w.alloc (Obj.cells c el)) (by apply Array.ext'; simp)
  · · obtain ⟨z, hz1, hz2⟩ := hfz hzl
      have hfill := fill_seq ei.size vs 0 [] ((Array.range (n * f.size)).map (z.cells[· % z.cells.size]!)).toList hvs (by simp) (by simp [hfs, hv2, hn])
      refine hrun (([] ++ vs.flatMap (fun v : Value => v.cells.toList)).toArray) (by simp) ?_
      refine run_buildSlice w T el n _ _ f z hu hf hz1 (by rw [hfs]; omega) (by rw [hfs]; have := Nat.mul_pos (Nat.pos_of_ne_zero hn0) hsh.2.2.1; omega) ?_
      rw [hfs]
      rw [hfs] at hfill
      rw [← hfill]
      congr 1
theorem val_buildSlice (hty : ∀ t i, X.ty t = some i → TyOK P t i) (h : Rel E g s a w) {T : TypeId} {n : Nat} {parts : Array (Nat × Operand)} (ho : o.op = .buildSlice T n parts) (e : valF X o s some = some r) : V P o a g w r :=
  (new_buildSlice hty h ho e).V h.ok
end
end Go.Proofs.Ythmdefgepnkgiaa.Eng
