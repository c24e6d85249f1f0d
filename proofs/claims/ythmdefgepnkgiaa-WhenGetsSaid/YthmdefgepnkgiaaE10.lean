/- Operations that make or change memory of the call's own. Conditions: the relation between the two states; the types' table is the program's. -/
import Derived.Test.YthmdefgepnkgiaaE9
import Derived.Deep.Upon
namespace Go.Proofs.Ythmdefgepnkgiaa.Eng
open Go
/-- An operation goes on. -/
def Goes (P : Program) (E : Ent) (o : Oper) (s' : St) (a : Act) (w : World) : Prop :=
  ∀ (next : Act → World → Prop) (Q : Exit → Act → World → Prop), (∀ a' w' g', Rel E g' s' a' w' → next a' w') → o.wp P a w next Q
theorem RepC.ep_mono {g g' : Gh} {w w' : World} (e : Ext g.S w g'.S w') {row : List DV} {v : Value} (h : RepC g w (.ep row) v) : RepC g' w' (.ep row) v := by
  obtain ⟨b, o, hv, hS, hx⟩ := h
  refine ⟨b, o, hv, Nat.le_trans hS (e.le b), fun j x hj => ?_⟩
  obtain ⟨u, hu, hr⟩ := hx j x hj
  have := (List.getElem?_eq_some_iff.1 hj).1
  exact ⟨u, e.cell b (o + j) u (by omega) hu, RepD.mono e hr⟩
section
variable {P : Program} {X : Ctx} {E : Ent} {g : Gh} {s s' : St} {a : Act} {w : World} {o : Oper}
theorem RepC.unptr {g g' : Gh} {w w' : World} {d : Nat} (e : Ext g.S w g'.S w') (ho : ∀ t x v, Owned g w t x v → Owned g' w' t x v) (hB : ∀ b, b ≠ d → g'.B b = g.B b) (c : CV) (v : Value) (h : RepC g w c v) : RepC g' w' (c.unptr d) v := by
  cases c with
  | d x => exact RepD.mono e h
  | own t x => exact ⟨RepD.mono e h.1, ho _ _ _ h.2⟩
  | fn f caps =>
    simp only [CV.unptr]
    cases hc : caps.any (fun c => Nat.beq c.1 d)
    · simp only [cond_false]
      have : ∀ c ∈ caps, c.1 ≠ d := fun c hm e => by
        rw [List.any_eq_false] at hc
        have := hc c hm
        subst e
        simp at this
      simp only [RepC] at h ⊢
      rw [h]
      congr 2
      refine List.map_congr_left fun c hm => ?_
      rw [hB _ (this c hm)]
    · simp only [cond_true]; trivial
  | ptr b o r =>
    simp only [CV.unptr]
    cases hb : Nat.beq b d
    · exact RepC.ptr_iff (hB _ (beq_false hb)) h
    · simp only [cond_true]; trivial
  | ep row => exact RepC.ep_mono e h
  | clo f caps => obtain ⟨ps, hv, hp⟩ := h; exact ⟨ps, hv, hp.mono fun _ _ => EpAt.mono e⟩
  | yl l =>
    simp only [CV.unptr]
    cases hb : Nat.beq yN d
    · simp only [cond_false, RepC] at h ⊢
      rw [hB _ (beq_false hb)]; exact h
    · trivial
  | u => trivial
  | un => exact h
theorem own_slice {g : Gh} {w : World} {t : Nat} {x : DV} {v : Value} (h : RepC g w (.own t x) v) : (match x with | .ints _ _ => True | .sl _ _ => True | _ => False) := by
  rcases h.2 with hv | ⟨_, _, _, _, hv, _⟩
  · have := h.1; rw [hv] at this; cases this <;> trivial
  · have := h.1; rw [hv] at this; cases this <;> trivial
theorem RepC.unfl {g g' : Gh} {w w' : World} {t : Nat} (e : Ext g.S w g'.S w') (ho : ∀ t' x v, t' ≠ t → Owned g w t' x v → Owned g' w' t' x v) (hB : ∀ b, g'.B b = g.B b) (c : CV) (v : Value) (h : RepC g w c v) : RepC g' w' (c.unfl t) v := by
  cases c with
  | d x => exact RepD.mono e h
  | own t' x =>
    cases ht : Nat.beq t' t
    · have : (CV.own t' x).unfl t = .own t' x := by cases x <;> simp [CV.unfl, ht]
      rw [this]; exact ⟨RepD.mono e h.1, ho _ _ _ (beq_false ht) h.2⟩
    · cases x with
      | ints k l => simp only [CV.unfl, ht, cond_true]; exact RepD.mono e h.1
      | sl z l => simp only [CV.unfl, ht, cond_true]; exact RepD.mono e h.1
      | int k n => exact absurd (own_slice h) (by simp)
      | bool b => exact absurd (own_slice h) (by simp)
      | str b => exact absurd (own_slice h) (by simp)
  | fn f caps => simp only [CV.unfl, RepC, hB] at *; exact h
  | ptr b o r => exact RepC.ptr_iff (hB b) h
  | ep row => exact RepC.ep_mono e h
  | clo f caps => obtain ⟨ps, hv, hp⟩ := h; exact ⟨ps, hv, hp.mono fun _ _ => EpAt.mono e⟩
  | yl l => simp only [CV.unfl, RepC, hB] at *; exact h
  | u => trivial
  | un => exact h
/-! ### A new box -/
theorem newBoxR_ok (h : Rel E g s a w) {d : Nat} (hd : dstOk E.n (some d) = true) {cells : List CV} {l0 q0 : List Value} {arr : Array Value} {T : TypeId} (harr : arr = (l0 ++ q0).toArray) (hc : All2 (RepK g w) cells l0) {r : Option (Nat × Option Nat)} {v : Value}
    (hv : ∀ (g' : Gh) (w' : World), g'.B d = w.heap.size → RepC g' w' (.ptr d 0 r) v) :
    ∃ g', Rel E g' (newBoxR s d cells r) (a.put (some d) v) (w.alloc (.cells arr T)) := by
  have hd' : d < E.n ∧ d < passed := by simpa [dstOk] using hd
  let g1 := g.new w.heap.size 0 (some (.box d))
  let g' : Gh := ⟨g1.S, g1.who, upd g.B d w.heap.size⟩
  have st : Stay g w g1 (w.alloc (.cells arr T)) := Stay.new h.ok _ 0 (some (.box d))
  have ex : Ext g.S w g'.S (w.alloc (.cells arr T)) := ext_new h.ok (.cells arr T) 0 (some (.box d))
  have ow : ∀ t x v, Owned g w t x v → Owned g' (w.alloc (.cells arr T)) t x v := fun t x v hh => owned_new h.ok (.cells arr T) 0 (some (.box d)) t x v hh
  have hB : ∀ b, b ≠ d → g'.B b = g.B b := fun b hb => upd_ne _ _ hb
  have hC : ∀ c v, RepC g w c v → RepC g' (w.alloc (.cells arr T)) (c.unptr d) v := RepC.unptr ex ow hB
  have ok1 := st.ok E h.ok
  refine ⟨g', ⟨ok1.os, ok1.out, ok1.tape, ok1.size, ok1.fresh, ok1.oldS, ok1.old, fun b hb ht => ?_, ok1.ext⟩, h.df, by simp [Act.put, h.sz], fun t => ?_, fun b cs hb => ?_⟩
  · rw [hB b (by omega)]; exact h.ok.pB b hb ht
  · rw [put_getD a d t _ (by rw [h.sz]; exact hd'.1)]
    by_cases e : t = d
    · subst e
      rw [if_pos rfl]
      simp only [newBoxR, upd_same]
      exact ⟨_, rfl, hv _ _ (by simp [g', upd_same])⟩
    · rw [if_neg e]
      simp only [newBoxR, upd_ne _ _ e]
      exact RepA.lift hC (h.tm t)
  · by_cases e : b = d
    · subst e
      simp only [newBoxR, upd_same] at hb
      obtain rfl := Option.some.inj hb
      refine ⟨?_, ?_, l0, q0, T, ?_, All2.map_left _ (fun c v hk => RepK.lift hC hk) hc⟩
      · simp [g', g1, Gh.new, upd_same]
      · simp [g', g1, Gh.new, upd_same]
      · simp only [g', upd_same]
        rw [heap_alloc_new, harr]
    · simp only [newBoxR, upd_ne _ _ e, St.map] at hb
      obtain ⟨cs0, hcs0, rfl⟩ := Option.map_eq_some_iff.1 hb
      obtain ⟨h1, h2, l, q, et, hh, hl⟩ := h.bx b cs0 hcs0
      have hlt : g.B b < w.heap.size := (Array.getElem?_eq_some_iff.1 hh).1
      refine ⟨?_, ?_, l, q, et, ?_, All2.map_left _ (fun c v hk => RepK.lift hC hk) hl⟩
      · rw [hB b e]; show upd g.who _ _ _ = _; rw [upd_ne _ _ (by omega)]; exact h1
      · rw [hB b e]; show upd g.S _ _ _ = _; rw [upd_ne _ _ (by omega)]; exact h2
      · rw [hB b e, heap_alloc_old _ _ _ hlt]; exact hh
theorem newBox_ok (h : Rel E g s a w) {d : Nat} (hd : dstOk E.n (some d) = true) {cells : List CV} {arr : Array Value} {T : TypeId} (hc : All2 (RepK g w) cells arr.toList) :
    ∃ g', Rel E g' (newBox s d cells) (a.put (some d) (.pointer (some ⟨w.heap.size, 0, none⟩))) (w.alloc (.cells arr T)) :=
  newBoxR_ok (l0 := arr.toList) (q0 := []) (r := none) h hd (by simp) hc fun g' w' hB => by show _ = _; rw [hB]
theorem exec_alloc (hty : ∀ t i, X.ty t = some i → TyOK P t i) (hn : E.n = X.n) (h : Rel E g s a w) {q : Option (List Nat)} {T : TypeId} (ho : o.op = .alloc T) (hd : dstOk X.n o.dst = true) (e : exec X q o s some = some s') : Goes P E o s' a w := by
  unfold exec at e
  simp only [ho] at e
  split at e
  case h_2 => cases e
  rename_i d i hdst hi
  obtain ⟨hb, e⟩ := b_true e
  obtain rfl := Option.some.inj e
  obtain ⟨f, hf, hfs, hfb, hfz⟩ := (hty _ _ hi).inf
  obtain ⟨z, hz1, hz2⟩ := hfz (beq_true hb)
  obtain ⟨g', hg⟩ := newBox_ok (T := T) h (by rw [hn, ← hdst]; exact hd) (zeroCs_ok (g := g) (w := w) d 0 hz2)
  intro next Q hnext
  refine wp_value (v := .pointer (some ⟨w.heap.size, 0, none⟩)) (w' := w.alloc (.cells z.cells T)) ?_ (hnext _ _ g' (by rw [hdst]; exact hg))
  simp [execOp, ho, Instr.alloc, zeroValue, typeInfo, hf, hz1, newVar, newRow]
theorem exec_box (hty : ∀ t i, X.ty t = some i → TyOK P t i) (hn : E.n = X.n) (h : Rel E g s a w) {q : Option (List Nat)} {T : TypeId} {x : Operand} (ho : o.op = .box T x) (hd : dstOk X.n o.dst = true) (e : exec X q o s some = some s') : Goes P E o s' a w := by
  unfold exec at e
  simp only [ho] at e
  split at e
  case h_2 => cases e
  rename_i d i ag cs hdst hi hx
  obtain ⟨hb, e⟩ := b_true e
  simp only [Bool.and_eq_true] at hb
  obtain rfl := Option.some.inj e
  have hc := cells_ok (ev_ok h hx) hb.2
  obtain ⟨g', hg⟩ := newBox_ok (T := T) h (by rw [hn, ← hdst]; exact hd) hc
  intro next Q hnext
  refine wp_value (v := .pointer (some ⟨w.heap.size, 0, none⟩)) (w' := w.alloc (.cells (a.eval x).cells T)) ?_ (hnext _ _ g' (by rw [hdst]; exact hg))
  simp [execOp, ho, Instr.box, newVar, newRow]
/-! ### A store into a box -/
theorem setCells_heap (b : Nat) : ∀ (vs : List Value) (o : Nat) (w : World) (l : List Value) (e : TypeId), w.heap[b]? = some (.cells l.toArray e (0, 0)) →
    (w.setCells b o vs).heap[b]? = some (.cells (setAt l o vs).toArray e (0, 0)) ∧ (∀ k, k ≠ b → (w.setCells b o vs).heap[k]? = w.heap[k]?) ∧
    (w.setCells b o vs).heap.size = w.heap.size ∧ (w.setCells b o vs).os = w.os ∧ (w.setCells b o vs).output = w.output ∧ (w.setCells b o vs).tape = w.tape
  | [], o, w, l, e, h => ⟨h, fun _ _ => rfl, rfl, rfl, rfl, rfl⟩
  | v :: vs, o, w, l, e, h => by
    have h1 := heap_setCell_same w b o l.toArray e v h
    have h2 : (w.setCell ⟨b, o, none⟩ v).heap[b]? = some (.cells (l.set o v).toArray e (0, 0)) := by
      rw [h1]; simp
    obtain ⟨a1, a2, a3, a4, a5, a6⟩ := setCells_heap b vs (o + 1) (w.setCell ⟨b, o, none⟩ v) (l.set o v) e h2
    rw [World.setCells, setAt]
    exact ⟨a1, fun k hk => (a2 k hk).trans (heap_setCell_other w _ k v (by simpa using hk)), by rw [a3]; simp, a4, a5, a6⟩
theorem setAt_app {α : Type} : ∀ (vs : List α) (o : Nat) (l q : List α), o + vs.length ≤ l.length → setAt (l ++ q) o vs = setAt l o vs ++ q
  | [], _, _, _, _ => rfl
  | v :: vs, o, l, q, h => by
    simp only [List.length_cons] at h
    rw [setAt, setAt, List.set_append_left _ _ (by omega)]
    exact setAt_app vs (o + 1) (l.set o v) q (by simp; omega)
theorem exec_store (hty : ∀ t i, X.ty t = some i → TyOK P t i) (h : Rel E g s a w) {q : Option (List Nat)} {T : TypeId} {p x : Operand} (ho : o.op = .store T p x) (e : exec X q o s some = some s') : Goes P E o s' a w := by
  unfold exec at e
  simp only [ho] at e
  split at e
  case h_2 => cases e
  rename_i i pc ag cs hi hp hx
  obtain ⟨hdn, e'⟩ := b_true e
  clear e
  unfold storeF at e'
  split at e'
  case h_2 => cases e'
  rename_i b o'
  have e := e'
  clear e'
  split at e
  case h_2 => cases e
  rename_i cells hcells
  obtain ⟨hb, e⟩ := b_true e
  simp only [Bool.and_eq_true] at hb
  obtain rfl := Option.some.inj e
  have hcl := beq_true hb.1.1
  have hle := ble_true hb.2
  have hc := cells_ok (ev_ok h hx) hb.1.2
  have hpv : a.eval p = .pointer (some ⟨g.B b, o', none⟩) := evC_ok h hp
  obtain ⟨h1, h2, l, q', et, hh, hl⟩ := h.bx b cells hcells
  have hcl' := hc.length
  have hll := hl.length
  simp only [Array.length_toList] at hcl'
  obtain ⟨a1, a2, a3, a4, a5, a6⟩ := setCells_heap (g.B b) (a.eval x).cells.toList o' w (l ++ q') et hh
  rw [setAt_app _ _ _ _ (by simp; omega)] at a1
  let w' := w.setCells (g.B b) o' (a.eval x).cells.toList
  have hT := hty _ _ hi
  have hrun : (Instr.storeAt T (.pointer (some ⟨g.B b, o', none⟩)) (a.eval x)).run P w = .ok () w' := by
    have := run_storeCells_cells (P := P) (g.B b) o' (a.eval x).cells.toList 0 w (fun j hj => by
      rw [cell_of_row w _ _ _ _ _ hh]
      have : o' + j < l.length := by simp at hj; omega
      simp
      omega) (fun j hj => frozen_of_row w _ _ _ _ hh) (fun v hv => by
        obtain ⟨j, hj, hjv⟩ := List.mem_iff_getElem.1 hv
        have hjc : j < cs.length := by simp at hj; omega
        obtain ⟨u, hu, hk⟩ := hc.get j cs[j] (List.getElem?_eq_getElem hjc)
        rw [List.getElem?_eq_getElem hj, hjv] at hu
        obtain rfl := Option.some.inj hu
        exact hk.2)
    have hs := hT.sizeOf (w := w)
    have hne : ¬ (a.eval x).cells.size ≠ i.size := by omega
    simp only [Nat.add_zero] at this
    simp only [Instr.storeAt, Instr.sureAddr, Sem.run_bind, Sem.run_pure, Result.andThen_ok, storeVar, hs, if_neg hne]
    exact this
  have ex : Ext g.S w g.S w' := ⟨fun _ => Nat.le_refl _, fun b' o'' v hlt hv => by
    by_cases e : b' = g.B b
    · subst e; rw [h2] at hlt; omega
    · rw [cell_of_heap (a2 b' e)]; exact hv⟩
  have hC : ∀ c v, RepC g w c v → RepC g w' c v := RepC.go ex (fun t y v hw => by
    rcases hw with hw | ⟨b', cap, arr, el, hv, hwho, hheap, r1, r2, r3⟩
    · exact .inl hw
    · have hne : b' ≠ g.B b := fun e => by subst e; rw [h1] at hwho; cases hwho
      exact .inr ⟨b', cap, arr, el, hv, hwho, by rw [a2 b' hne]; exact hheap, r1, r2, r3⟩) (fun _ => rfl)
  have hrel : Rel E g ⟨s.tm, upd s.bx b (some (setAt cells o' cs))⟩ (a.put o.dst undef) w' := by
    have hdd : o.dst = none := by simpa using hdn
    rw [hdd]
    refine ⟨⟨a4.trans h.ok.os, a5.trans h.ok.out, a6.trans h.ok.tape, by rw [a3]; exact h.ok.size, fun k hk => h.ok.fresh k (by rw [a3] at hk; exact hk), h.ok.oldS, fun k hk hw => ?_, h.ok.pB, h.ok.ext.trans ex⟩, h.df, h.sz, fun t => RepA.keep hC (h.tm t), fun k cs' hk => ?_⟩
    · have hne : k ≠ g.B b := fun e => by
        have := (h.ok.oldS k hk).2
        rw [e, h1, ← e, hw] at this
        cases this
      rw [a2 k hne]; exact h.ok.old k hk hw
    · by_cases e : k = b
      · subst e
        simp only [upd_same] at hk
        obtain rfl := Option.some.inj hk
        exact ⟨h1, h2, _, q', et, a1, All2.mono (fun c v hkk => ⟨hC c v hkk.1, hkk.2⟩) (hc.setAt o' hl)⟩
      · simp only [upd_ne _ _ e] at hk
        obtain ⟨k1, k2, l', q2, et', hh', hl'⟩ := h.bx k cs' hk
        have hne : g.B k ≠ g.B b := fun e' => by rw [e', h1] at k1; exact e (by cases k1; rfl)
        exact ⟨k1, k2, l', q2, et', by rw [a2 _ hne]; exact hh', All2.mono (fun c v hkk => ⟨hC c v hkk.1, hkk.2⟩) hl'⟩
  intro next Q hnext
  unfold Oper.wp
  have : (execOp a.eval o).run P w = .ok .skip w' := by simp [execOp, ho, hpv, hrun]
  rw [this]
  exact hnext _ _ g hrel
/-! ### append -/
theorem src_cells {S : Nat → Nat} {y : DV} {v : Value} (h : RepD S w y v) (hk : (∃ k l, y = .ints k l) ∨ ∃ z l, y = .sl z l) : ∃ news : List Value, news.length = y.count * y.sz ∧ (∀ u ∈ news, u.oneCell' = true) ∧
    (∀ (w' : World), (∀ b o x, w.cell? ⟨b, o, none⟩ = some x → w'.cell? ⟨b, o, none⟩ = some x) → (Builtin.firstCells y.sz y.count v).run P w' = .ok news.toArray w') ∧ (∀ w' : World, (Builtin.lenOf v).run P w' = .ok y.count w') ∧
    (∀ k l, y = .ints k l → news = l.map (Value.int k)) ∧ (∀ z l, y = .sl z l → All2 (RepD S w) l.flatten news) := by
  cases h with
  | int => rcases hk with ⟨_, _, h⟩ | ⟨_, _, h⟩ <;> cases h
  | bool => rcases hk with ⟨_, _, h⟩ | ⟨_, _, h⟩ <;> cases h
  | str => rcases hk with ⟨_, _, h⟩ | ⟨_, _, h⟩ <;> cases h
  | ints0 k ad c =>
    refine ⟨[], by simp [DV.count], by simp, fun w' _ => ?_, fun w' => rfl, fun k' l h => (by cases h; rfl), fun z l h => (by cases h)⟩
    cases ad with
    | none => simp [Builtin.firstCells]
    | some ad => simp [Builtin.firstCells, DV.count, loadCells, loadCellsFrom]
  | sl0 z ad c =>
    refine ⟨[], by simp [DV.count], by simp, fun w' _ => ?_, fun w' => rfl, fun k' l h => (by cases h), fun z l h => (by cases h; exact .nil)⟩
    cases ad with
    | none => simp [Builtin.firstCells]
    | some ad => simp [Builtin.firstCells, DV.count, loadCells, loadCellsFrom]
  | ints k l b o c hc hS hcell =>
    refine ⟨l.map (Value.int k), by simp [DV.count, DV.sz], fun u hu => by obtain ⟨_, _, rfl⟩ := List.mem_map.1 hu; rfl, fun w' hw => ?_, fun w' => rfl, fun k' l' h => (by cases h; rfl), fun z l' h => (by cases h)⟩
    exact run_firstCells_some w' 1 l.length ⟨b, o, none⟩ l.length c (l.map (Value.int k)) (by simp) (fun j u hj => by
      rw [List.getElem?_map] at hj
      obtain ⟨n, hn, rfl⟩ := Option.map_eq_some_iff.1 hj
      rw [Addr.add_mid]; exact hw _ _ _ (hcell j n hn))
  | sl z xs b o c vals hz hc hS hr hv hx =>
    have hlen : ((List.range (xs.length * z)).map vals).length = xs.length * z := by simp
    have hflat : All2 (RepD S w) xs.flatten ((List.range (xs.length * z)).map vals) := by
      refine All2.of_get (by rw [flat_len xs hr, hlen]) fun j x u hj hu => ?_
      have hjl : j < xs.length * z := by rw [← flat_len xs hr]; exact (List.getElem?_eq_some_iff.1 hj).1
      have hu' : u = vals j := by
        rw [List.getElem?_map, List.getElem?_range hjl] at hu
        exact (Option.some.inj hu).symm
      subst hu'
      have hq : j / z < xs.length := Nat.div_lt_of_lt_mul (by rw [Nat.mul_comm]; exact hjl)
      have hrow := hr xs[j / z] (List.getElem_mem hq)
      have hjm : j % z < (xs[j / z]).length := by rw [hrow]; exact Nat.mod_lt _ hz
      have h3 := flat_get xs hr (j / z) xs[j / z] (j % z) _ (List.getElem?_eq_getElem hq) (List.getElem?_eq_getElem hjm)
      have h4 := hx (j / z) xs[j / z] (j % z) _ (List.getElem?_eq_getElem hq) (List.getElem?_eq_getElem hjm)
      have h5 : j / z * z + j % z = j := by rw [Nat.mul_comm]; exact Nat.div_add_mod j z
      rw [h5] at h3 h4
      rw [h3] at hj
      obtain rfl := Option.some.inj hj
      exact h4
    refine ⟨(List.range (xs.length * z)).map vals, by simp [DV.count, DV.sz], fun u hu => ?_, fun w' hw => ?_, fun w' => rfl, fun k' l' h => (by cases h), fun z' l' h => (by cases h; exact hflat)⟩
    · obtain ⟨j, hj, hju⟩ := List.mem_iff_getElem.1 hu
      obtain ⟨x, hx'⟩ : ∃ x, xs.flatten[j]? = some x := ⟨_, List.getElem?_eq_getElem (by rw [hflat.length]; exact hj)⟩
      obtain ⟨u', hu', hr'⟩ := hflat.get j x hx'
      rw [List.getElem?_eq_getElem hj, hju] at hu'
      obtain rfl := Option.some.inj hu'
      exact RepD.one hr'
    · exact run_firstCells_some w' z xs.length ⟨b, o, none⟩ xs.length c _ hlen (fun j u hj => by
        have hjl : j < xs.length * z := by rw [← hlen]; exact (List.getElem?_eq_some_iff.1 hj).1
        rw [List.getElem?_map, List.getElem?_range hjl] at hj
        obtain rfl := Option.some.inj hj
        rw [Addr.add_mid]; exact hw _ _ _ (hv j hjl))
/-- A row's cells, whole. -/
def flatD : DV → List DV
  | .ints k l => l.map (DV.int k)
  | .sl _ xs => xs.flatten
  | .str b => (intsOf b).map (DV.int .u8)
  | _ => []
theorem src_ok {S : Nat → Nat} {y : DV} {v : Value} {U : TypeId} {size : Nat} (h : RepD S w y v) (hU : (∃ e', P.underlying U = some (.slice e')) ∨ P.underlying U = some .string)
    (hk : (∃ k l, y = .ints k l ∧ size = 1) ∨ (∃ l, y = .sl size l) ∨ ∃ b, y = .str b ∧ size = 1) : ∃ news : List Value, Src P size U v y.count news w ∧ All2 (RepD S w) (flatD y) news := by
  rcases hk with ⟨k, l, rfl, rfl⟩ | ⟨l, rfl⟩ | ⟨b, rfl, rfl⟩
  · obtain ⟨news, h1, h2, h3, h4, h5, h6⟩ := src_cells h (.inl ⟨_, _, rfl⟩)
    refine ⟨news, ⟨hU, h4, h3 w (fun _ _ _ h => h), h3 w.drew (fun _ _ _ h => h), h1, h2⟩, ?_⟩
    rw [h5 k l rfl]
    refine All2.of_get (by simp [flatD]) fun j x u hj hu => ?_
    simp only [flatD, List.getElem?_map, Option.map_eq_some_iff] at hj hu
    obtain ⟨n, hn, rfl⟩ := hj
    obtain ⟨n', hn', rfl⟩ := hu
    rw [hn] at hn'
    obtain rfl := Option.some.inj hn'
    exact .int _ _
  · obtain ⟨news, h1, h2, h3, h4, h5, h6⟩ := src_cells h (.inr ⟨_, _, rfl⟩)
    exact ⟨news, ⟨hU, h4, h3 w (fun _ _ _ h => h), h3 w.drew (fun _ _ _ h => h), h1, h2⟩, h6 _ l rfl⟩
  · cases h
    refine ⟨byteCells b, ⟨hU, fun _ => rfl, firstCells_string b w, firstCells_string b w.drew, by rw [byteCells_length, Nat.mul_one]; rfl, fun u hu => by
      obtain ⟨_, _, rfl⟩ := List.mem_map.1 hu
      rfl⟩, ?_⟩
    refine All2.of_get (by simp [flatD, intsOf, byteCells]) fun j x u hj hu => ?_
    simp only [flatD, intsOf, byteCells, List.getElem?_map, Option.map_eq_some_iff] at hj hu
    obtain ⟨n, ⟨c, hc, rfl⟩, rfl⟩ := hj
    obtain ⟨c', hc', rfl⟩ := hu
    rw [hc] at hc'
    obtain rfl := Option.some.inj hc'
    exact .int _ _
theorem flat_row {S : Nat → Nat} {x : DV} (hk : (∃ k l, x = .ints k l) ∨ ∃ z l, x = .sl z l) {b c : Nat} {vs : List Value} (hrows : ∀ z l, x = .sl z l → 0 < z ∧ ∀ row ∈ l, row.length = z) (hv : All2 (RepD S w) (flatD x) vs)
    (hc : ∀ (j : Nat) (v : Value), vs[j]? = some v → w.cell? ⟨b, j, none⟩ = some v) (hS : x.len * x.sz ≤ S b) (hl : x.len ≤ c) : RepD S w x (.slice (some ⟨b, 0, none⟩) x.len c) := by
  rcases hk with ⟨k, l, rfl⟩ | ⟨z, l, rfl⟩
  · refine .ints k l b 0 c hl (by simpa [DV.len, DV.sz] using hS) fun j n hj => ?_
    obtain ⟨v, hv', hr⟩ := hv.get j (.int k n) (by simp [flatD, hj])
    cases hr
    rw [Nat.zero_add]; exact hc j _ hv'
  · obtain ⟨hz, hr⟩ := hrows z l rfl
    have hlen := hv.length
    simp only [flatD] at hlen
    rw [flat_len l hr] at hlen
    refine .sl z l b 0 c (fun j => vs.getD j undef) hz hl (by simpa [DV.len, DV.sz] using hS) hr (fun j hj => ?_) (fun i row j y hi hj => ?_)
    · rw [Nat.zero_add]
      exact hc j _ (by rw [List.getD_eq_getElem?_getD, List.getElem?_eq_getElem (by omega)]; rfl)
    · obtain ⟨v, hv', hrr⟩ := hv.get _ _ (flat_get l hr i row j y hi hj)
      rw [List.getD_eq_getElem?_getD, hv']; exact hrr
theorem sl_rows {S : Nat → Nat} {z : Nat} {l : List (List DV)} {v : Value} (h : RepD S w (.sl z l) v) : l = [] ∨ (0 < z ∧ ∀ row ∈ l, row.length = z) := by
  cases h with
  | sl0 => exact .inl rfl
  | sl _ _ b o c vals hz hc hS hr hv hx => exact .inr ⟨hz, hr⟩
end
end Go.Proofs.Ythmdefgepnkgiaa.Eng
