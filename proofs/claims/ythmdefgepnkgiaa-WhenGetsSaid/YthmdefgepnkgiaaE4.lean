/- Operands and results of the evaluator stand for what the machine holds. Conditions: the relation between the two states. -/
import Derived.Test.YthmdefgepnkgiaaE3
namespace Go.Proofs.Ythmdefgepnkgiaa.Eng
open Go
theorem upd_same {α : Type} (f : Nat → α) (d : Nat) (v : α) : upd f d v d = v := by simp [upd]
theorem upd_ne {α : Type} (f : Nat → α) {d t : Nat} (v : α) (h : t ≠ d) : upd f d v t = f t := by
  have : Nat.beq t d = false := by
    cases e : Nat.beq t d
    · rfl
    · exact absurd (Nat.eq_of_beq_eq_true e) h
  simp [upd, this]
theorem beq_true {a b : Nat} (h : Nat.beq a b = true) : a = b := Nat.eq_of_beq_eq_true h
theorem beq_false {a b : Nat} (h : Nat.beq a b = false) : a ≠ b := fun e => by subst e; simp at h
theorem ble_true {a b : Nat} (h : Nat.ble a b = true) : a ≤ b := Nat.le_of_ble_eq_true h
theorem b_true {c : Bool} {α : Type} {x : Option α} {y : α} (h : (bif c then x else none) = some y) : c = true ∧ x = some y := by
  cases c
  · cases h
  · exact ⟨rfl, h⟩
section lift
variable {g g' : Gh} {w w' : World} {f : CV → CV}
theorem RepK.lift (h : ∀ c v, RepC g w c v → RepC g' w' (f c) v) {c : CV} {v : Value} (hk : RepK g w c v) : RepK g' w' (f c) v := ⟨h _ _ hk.1, hk.2⟩
theorem RepA.lift (h : ∀ c v, RepC g w c v → RepC g' w' (f c) v) {x : AV} {v : Value} (hx : RepA g w x v) : RepA g' w' (x.map f) v := by
  cases x with
  | one a cs =>
    cases a with
    | true =>
      obtain ⟨l, hv, hl⟩ := hx
      exact ⟨l, hv, All2.map_left f (fun _ _ => RepK.lift h) hl⟩
    | false =>
      obtain ⟨c, rfl, hc⟩ := hx
      exact ⟨f c, rfl, h _ _ hc⟩
  | tup vs =>
    obtain ⟨l, hv, hl⟩ := hx
    refine ⟨l, hv, All2.map_left _ ?_ hl⟩
    rintro ⟨a, cs⟩ u hu
    cases a with
    | true =>
      obtain ⟨l, hv, hl⟩ := hu
      exact ⟨l, hv, All2.map_left f (fun _ _ => RepK.lift h) hl⟩
    | false =>
      obtain ⟨c, rfl, hc⟩ := hu
      exact ⟨f c, rfl, h _ _ hc⟩
end lift
theorem AV.map_id (x : AV) : x.map (fun c => c) = x := by
  cases x with
  | one a cs => simp [AV.map]
  | tup vs => simp [AV.map]
theorem RepA.keep {g g' : Gh} {w w' : World} (h : ∀ c v, RepC g w c v → RepC g' w' c v) {x : AV} {v : Value} (hx : RepA g w x v) : RepA g' w' x v := by
  have := RepA.lift (f := fun c => c) h hx
  rwa [AV.map_id] at this
/-- What was known stays known. -/
structure Stay (g : Gh) (w : World) (g' : Gh) (w' : World) : Prop where
  c : ∀ x v, RepC g w x v → RepC g' w' x v
  b : ∀ b cells, BoxAt g w b cells → BoxAt g' w' b cells
  ok : ∀ E, OKW E g w → OKW E g' w'
theorem Stay.refl (g : Gh) (w : World) : Stay g w g w := ⟨fun _ _ h => h, fun _ _ h => h, fun _ h => h⟩
theorem Stay.trans {g g' g'' : Gh} {w w' w'' : World} (h : Stay g w g' w') (k : Stay g' w' g'' w'') : Stay g w g'' w'' :=
  ⟨fun x v r => k.c x v (h.c x v r), fun b cells r => k.b b cells (h.b b cells r), fun E r => k.ok E (h.ok E r)⟩
theorem Rel.stay {E : Ent} {g g' : Gh} {s : St} {a : Act} {w w' : World} (h : Rel E g s a w) (k : Stay g w g' w') : Rel E g' s a w' :=
  ⟨k.ok E h.ok, h.df, h.sz, fun t => RepA.keep k.c (h.tm t), fun b cells hb => k.b b cells (h.bx b cells hb)⟩
theorem RepC.go {g g' : Gh} {w w' : World} (e : Ext g.S w g'.S w') (ho : ∀ t x v, Owned g w t x v → Owned g' w' t x v) (hB : ∀ b, g'.B b = g.B b) (c : CV) (v : Value) (h : RepC g w c v) : RepC g' w' c v := by
  cases c with
  | d x => exact RepD.mono e h
  | own t x => exact ⟨RepD.mono e h.1, ho _ _ _ h.2⟩
  | fn f caps => simp only [RepC, hB] at *; exact h
  | ptr b o r => exact RepC.ptr_iff (hB b) h
  | ep row =>
    obtain ⟨b, o, hv, hS, hx⟩ := h
    refine ⟨b, o, hv, Nat.le_trans hS (e.le b), fun j x hj => ?_⟩
    obtain ⟨u, hu, hr⟩ := hx j x hj
    have := (List.getElem?_eq_some_iff.1 hj).1
    exact ⟨u, e.cell b (o + j) u (by omega) hu, RepD.mono e hr⟩
  | clo f caps => obtain ⟨ps, hv, hp⟩ := h; exact ⟨ps, hv, hp.mono fun _ _ => EpAt.mono e⟩
  | yl l => simp only [RepC, hB] at *; exact h
  | u => trivial
  | un => exact h
theorem cell_of_heap {w w' : World} {b : Nat} (h : w'.heap[b]? = w.heap[b]?) (o : Nat) : w'.cell? ⟨b, o, none⟩ = w.cell? ⟨b, o, none⟩ := by
  simp [World.cell?, h]
/-- A draw changes nothing. -/
theorem Stay.drew (g : Gh) (w : World) : Stay g w g w.drew :=
  have H : ∀ c v, RepC g w c v → RepC g w.drew c v := RepC.go (g := g) (g' := g) (w := w) (w' := w.drew) ⟨fun _ => Nat.le_refl _, fun b o v _ hv => hv⟩ (fun t x v h => h) (fun _ => rfl)
  ⟨H, fun b cells h => ⟨h.1, h.2.1, by
     obtain ⟨l, q, e, hh, hl⟩ := h.2.2
     exact ⟨l, q, e, hh, All2.mono (fun c v hk => ⟨H c v hk.1, hk.2⟩) hl⟩⟩,
   fun E h => ⟨h.os, h.out, h.tape, h.size, h.fresh, h.oldS, h.old, h.pB, ⟨h.ext.le, h.ext.cell⟩⟩⟩
/-- A new block: 'm' of its cells are stable; 'o' owns it. -/
def Gh.new (g : Gh) (b m : Nat) (o : Option Owner) : Gh := ⟨upd g.S b m, upd g.who b o, g.B⟩
theorem ext_new {E : Ent} {g : Gh} {w : World} (ok : OKW E g w) (ob : Obj) (m : Nat) (o : Option Owner) : Ext g.S w (g.new w.heap.size m o).S (w.alloc ob) := by
  refine ⟨fun b => ?_, fun b of v ho hv => ?_⟩
  · by_cases hb : b = w.heap.size
    · subst hb; rw [(ok.fresh _ (Nat.le_refl _)).1]; exact Nat.zero_le _
    · simp [Gh.new, upd_ne _ _ hb]
  · have := World.block_lt_of_cell? w _ hv
    rw [World.cell?_alloc_lt _ _ _ this]; exact hv
theorem owned_new {E : Ent} {g : Gh} {w : World} (_ : OKW E g w) (ob : Obj) (m : Nat) (o : Option Owner) (t : Nat) (x : DV) (v : Value) (h : Owned g w t x v) : Owned (g.new w.heap.size m o) (w.alloc ob) t x v := by
  rcases h with h | ⟨b, cap, arr, e, hv, hw, hh, hc, hs, hS⟩
  · exact .inl h
  · have hb : b < w.heap.size := (Array.getElem?_eq_some_iff.1 hh).1
    refine .inr ⟨b, cap, arr, e, hv, ?_, ?_, hc, hs, ?_⟩
    · simp only [Gh.new]; rw [upd_ne _ _ (by omega)]; exact hw
    · rw [heap_alloc_old _ _ _ hb]; exact hh
    · simp only [Gh.new]; rw [upd_ne _ _ (by omega)]; exact hS
theorem Stay.new {E : Ent} {g : Gh} {w : World} (ok : OKW E g w) (ob : Obj) (m : Nat) (o : Option Owner) : Stay g w (g.new w.heap.size m o) (w.alloc ob) := by
  have hc : ∀ c v, RepC g w c v → RepC (g.new w.heap.size m o) (w.alloc ob) c v := RepC.go (ext_new ok ob m o) (owned_new ok ob m o) (fun _ => rfl)
  refine ⟨hc, fun b cells h => ?_, fun F k => ?_⟩
  · obtain ⟨l, q, e, hh, hl⟩ := h.2.2
    have hb : g.B b < w.heap.size := (Array.getElem?_eq_some_iff.1 hh).1
    have hS : (g.new w.heap.size m o).S (g.B b) = g.S (g.B b) := upd_ne _ _ (by omega)
    refine ⟨?_, ?_, l, q, e, ?_, All2.mono (fun c v hk => ⟨hc c v hk.1, hk.2⟩) hl⟩
    · show upd g.who _ _ (g.B b) = _
      rw [upd_ne _ _ (by omega)]; exact h.1
    · show (g.new w.heap.size m o).S (g.B b) = 0
      rw [hS]; exact h.2.1
    · show (w.alloc ob).heap[g.B b]? = _
      rw [heap_alloc_old _ _ _ hb]; exact hh
  · refine ⟨k.os, k.out, k.tape, by simp; have := k.size; omega, fun b hb => ?_, fun b hb => ?_, fun b hb hw => ?_, k.pB, k.ext.trans (ext_new ok ob m o)⟩
    · have hb' : w.heap.size + 1 ≤ b := by simpa using hb
      have hne : b ≠ w.heap.size := by omega
      simp only [Gh.new]
      rw [upd_ne _ _ hne, upd_ne _ _ hne]
      exact k.fresh b (by omega)
    · have := k.size
      simp only [Gh.new]
      rw [upd_ne _ _ (by omega), upd_ne _ _ (by omega)]
      exact k.oldS b hb
    · have := k.size
      rw [heap_alloc_old _ _ _ (by omega)]
      exact k.old b hb hw
/-! ### The frame's slots -/
theorem put_getD (a : Act) (d t : Nat) (v : Value) (h : d < a.tmps.size) : (a.put (some d) v).tmps.getD t undef = if t = d then v else a.tmps.getD t undef := by
  simp only [Act.put, Array.getD_eq_getD_getElem?, Array.getElem?_setIfInBounds]
  by_cases e : d = t
  · subst e; simp [h]
  · simp [e, Ne.symm e]
theorem Rel.put {E : Ent} {g : Gh} {s : St} {a : Act} {w : World} (h : Rel E g s a w) (d : Option Nat) (hd : dstOk E.n d = true) {r : AV} {v : Value} (hr : RepA g w r v) : Rel E g (s.put d r) (a.put d v) w := by
  cases d with
  | none => exact h
  | some d =>
    have hlt : d < E.n := by simp [dstOk] at hd; exact hd.1
    refine ⟨h.ok, h.df, by simp [Act.put, h.sz], fun t => ?_, h.bx⟩
    rw [put_getD a d t v (by rw [h.sz]; exact hlt)]
    by_cases e : t = d
    · subst e; simp [St.put, upd_same, hr]
    · rw [if_neg e]; simp only [St.put, upd_ne _ _ e]; exact h.tm t
theorem eval_tmp (a : Act) (t : Nat) : a.eval (.tmp t) = a.tmps.getD t undef := rfl
section
variable {P : Program} {X : Ctx} {E : Ent} {g : Gh} {s : St} {a : Act} {w : World}
theorem Rel.at_c (h : Rel E g s a w) {t : Nat} {c : CV} (e : s.tm t = .one false [c]) : RepC g w c (a.eval (.tmp t)) := by
  have := h.tm t
  rw [e] at this
  obtain ⟨c', hc, hr⟩ := this
  obtain rfl : c = c' := by simpa using hc
  exact hr
theorem evC_ok (h : Rel E g s a w) {x : Operand} {c : CV} (e : evC s x = some c) : RepC g w c (a.eval x) := by
  unfold evC at e
  split at e
  · split at e
    · rename_i t _ c' ht
      obtain rfl := Option.some.inj e
      exact h.at_c ht
    · cases e
  · obtain rfl := Option.some.inj e; exact RepD.int _ _
  · obtain rfl := Option.some.inj e; exact RepD.bool _
  · obtain rfl := Option.some.inj e; exact RepD.str _
  · obtain rfl := Option.some.inj e; simp [RepC, Act.eval]
  · cases e
theorem RepC.pl {g : Gh} {w : World} {c : CV} {v : Value} (h : RepC g w c v) : RepC g w c.pl v := by
  cases c with
  | own t x => cases x <;> first | exact h.1 | exact h
  | _ => exact h
theorem evI_ok (h : Rel E g s a w) {x : Operand} {k : IntKind} {n : Int} (e : evI s x = some (k, n)) : a.eval x = .int k n := by
  unfold evI at e
  split at e
  case h_2 => cases e
  rename_i c hc
  have hp := (evC_ok h hc).pl
  split at e
  case h_2 => cases e
  rename_i k' n' hd
  rw [hd] at hp
  simp only [Option.some.injEq, Prod.mk.injEq] at e
  obtain ⟨rfl, rfl⟩ := e
  simp only [RepC] at hp
  revert hp
  generalize a.eval x = v
  intro hp
  cases hp
  rfl
theorem evB_ok (h : Rel E g s a w) {x : Operand} {b : Bool} (e : evB s x = some b) : a.eval x = .bool b := by
  unfold evB at e
  split at e
  case h_2 => cases e
  rename_i c hc
  have hp := (evC_ok h hc).pl
  split at e
  case h_2 => cases e
  rename_i b' hd
  rw [hd] at hp
  obtain rfl := Option.some.inj e
  simp only [RepC] at hp
  revert hp
  generalize a.eval x = v
  intro hp
  cases hp
  rfl
theorem emptyOf_nil {e : TypeId} {x : DV} (h : emptyOf X e = some x) : (∃ k, x = .ints k []) ∨ ∃ z, x = .sl z [] := by
  unfold emptyOf at h
  split at h
  · split at h
    · exact .inl ⟨_, (Option.some.inj h).symm⟩
    · exact .inr ⟨_, (Option.some.inj h).symm⟩
  · cases h
theorem own_nil {x : DV} (t : Nat) (h : (∃ k, x = .ints k []) ∨ ∃ z, x = .sl z []) : RepC g w (.own t x) (.slice none 0 0) := by
  rcases h with ⟨k, rfl⟩ | ⟨z, rfl⟩
  · exact ⟨.ints0 _ _ _, .inl rfl⟩
  · exact ⟨.sl0 _ _ _, .inl rfl⟩
theorem ev_ok (h : Rel E g s a w) {d : Nat} {T : TypeId} {x : Operand} {r : AV} (e : ev X s d T x = some r) : RepA g w r (a.eval x) := by
  unfold ev at e
  split at e
  · obtain rfl := Option.some.inj e; exact h.tm _
  · obtain rfl := Option.some.inj e; exact ⟨_, rfl, RepD.int _ _⟩
  · obtain rfl := Option.some.inj e; exact ⟨_, rfl, RepD.bool _⟩
  · obtain rfl := Option.some.inj e; exact ⟨_, rfl, RepD.str _⟩
  · split at e
    · split at e
      · split at e
        · rename_i x hx
          obtain rfl := Option.some.inj e
          exact ⟨_, rfl, own_nil _ (emptyOf_nil hx)⟩
        · cases e
      · cases e
    · cases e
  · obtain rfl := Option.some.inj e; exact ⟨_, rfl, by simp [RepC, Act.eval]⟩
  · obtain rfl := Option.some.inj e; exact ⟨_, rfl, trivial⟩
  · cases e
/-- The cells of a value. -/
theorem cells_ok {ag : Bool} {cs : List CV} {v : Value} (h : RepA g w (.one ag cs) v) (hs : cs.all CV.sure = true) : All2 (RepK g w) cs v.cells.toList := by
  cases ag with
  | true =>
    obtain ⟨l, rfl, hl⟩ := h
    simpa [Value.cells] using hl
  | false =>
    obtain ⟨c, rfl, hc⟩ := h
    have h1 := RepC.one hc (by simpa using hs)
    have : v.cells = #[v] := by cases v <;> simp_all [Value.cells, Value.oneCell']
    rw [this]
    exact .cons ⟨hc, h1⟩ .nil
end
theorem wp_value {P : Program} {o : Oper} {a : Act} {w w' : World} {v : Value} {next : Act → World → Prop} {Q : Exit → Act → World → Prop} (hr : (execOp a.eval o).run P w = .ok (.value v) w') (h : next (a.put o.dst v) w') : o.wp P a w next Q := by
  unfold Oper.wp
  rw [hr]
  exact h
end Go.Proofs.Ythmdefgepnkgiaa.Eng
