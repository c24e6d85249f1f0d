/- What an operation that only looks tells is what the machine comes to. Conditions: the relation between the two states; the types' table is the program's. -/
import Derived.Test.YthmdefgepnkgiaaE4
import Derived.Laws.Small
namespace Go.Proofs.Ythmdefgepnkgiaa.Eng
open Go
def V (P : Program) (o : Oper) (a : Act) (g : Gh) (w : World) (r : AV) : Prop :=
  ∃ v w' g', (execOp a.eval o).run P w = .ok (.value v) w' ∧ Stay g w g' w' ∧ RepA g' w' r v
theorem V.same {P : Program} {o : Oper} {a : Act} {g : Gh} {w : World} {r : AV} {v : Value} (hr : (execOp a.eval o).run P w = .ok (.value v) w) (h : RepA g w r v) : V P o a g w r :=
  ⟨v, w, g, hr, Stay.refl g w, h⟩
theorem RepA.c {g : Gh} {w : World} {c : CV} {v : Value} (h : RepC g w c v) : RepA g w (.c c) v := ⟨c, rfl, h⟩
theorem RepA.dint {g : Gh} {w : World} (k : IntKind) (n : Int) : RepA g w (.int k n) (.int k n) := ⟨_, rfl, RepD.int k n⟩
section
variable {P : Program} {X : Ctx} {E : Ent} {g : Gh} {s : St} {a : Act} {w : World} {o : Oper} {r : AV}
theorem TyOK.not_agg {T : TypeId} {i : TI} (h : TyOK P T i) (ha : i.agg = false) : (isAgg T).run P w = .ok false w := by
  unfold isAgg
  rw [Sem.run_bind, run_underlying h.und w]
  unfold TI.agg at ha
  revert ha
  cases i.desc <;> simp
theorem TyOK.is_agg {T : TypeId} {i : TI} (h : TyOK P T i) (ha : i.agg = true) : (isAgg T).run P w = .ok true w := by
  unfold isAgg
  rw [Sem.run_bind, run_underlying h.und w]
  unfold TI.agg at ha
  revert ha
  cases i.desc <;> simp
theorem TyOK.sizeOf {T : TypeId} {i : TI} (h : TyOK P T i) : (Go.sizeOf T).run P w = .ok i.size w := by
  obtain ⟨f, hf, hs, _⟩ := h.inf
  simp [Go.sizeOf, typeInfo, hf, hs]
theorem load_one {T : TypeId} {i : TI} (h : TyOK P T i) (ha : i.agg = false) {b o' : Nat} {v : Value} (hc : w.cell? ⟨b, o', none⟩ = some v) :
    (Instr.loadAt T (.pointer (some ⟨b, o', none⟩))).run P w = .ok v w := by
  simp [Instr.loadAt, Instr.sureAddr, loadVar, h.not_agg ha, hc]
theorem load_agg {T : TypeId} {i : TI} (h : TyOK P T i) (ha : i.agg = true) {b o' : Nat} {cs : List Value} (hl : cs.length = i.size) (hc : w.rangeAt b o' cs) :
    (Instr.loadAt T (.pointer (some ⟨b, o', none⟩))).run P w = .ok (.agg cs.toArray) w := by
  have hl2 : (loadCells ⟨b, o', none⟩ i.size).run P w = .ok cs.toArray w := by
    rw [← hl]
    exact run_loadCells_list (P := P) w ⟨b, o', none⟩ cs (fun j v hv => by rw [Addr.add_mid]; exact hc j v hv)
  simp [Instr.loadAt, Instr.sureAddr, loadVar, h.is_agg ha, h.sizeOf, hl2]
theorem range_list {b : Nat} {l : List Value} {e : TypeId} {fr : Nat × Nat} (hb : w.heap[b]? = some (.cells l.toArray e fr)) (o' n : Nat) : w.rangeAt b o' ((l.drop o').take n) := by
  intro j v hv
  rw [cell_of_row w b (o' + j) _ _ _ hb]
  rw [List.getElem?_take] at hv
  split at hv
  · simpa using hv
  · cases hv
theorem range_part {b : Nat} {l q : List Value} {e : TypeId} {fr : Nat × Nat} (hb : w.heap[b]? = some (.cells (l ++ q).toArray e fr)) (o' n : Nat) (hl : o' + n ≤ l.length) : w.rangeAt b o' ((l.drop o').take n) := by
  have := range_list hb o' n
  rwa [List.drop_append_of_le_length (by omega), List.take_append_of_le_length (by simp; omega)] at this
theorem val_load (hty : ∀ t i, X.ty t = some i → TyOK P t i) (h : Rel E g s a w) {T : TypeId} {p : Operand} (ho : o.op = .load T p) {i : TI} {pc : CV} (hi : X.ty T = some i) (hp : evC s p = some pc)
    (e : loadF s.bx i pc some = some r) : V P o a g w r := by
  have hT := hty _ _ hi
  have hpv := evC_ok h hp
  have key : ∀ v, (Instr.loadAt T (a.eval p)).run P w = .ok v w → RepA g w r v → V P o a g w r := fun v hr hv => by
    refine V.same (v := v) ?_ hv
    simp [execOp, ho, hr]
  unfold loadF at e
  split at e
  · rename_i b o'
    split at e
    · rename_i cells hb
      obtain ⟨_, _, l, q, et, hh, hl⟩ := h.bx b cells hb
      have hpv' : a.eval p = .pointer (some ⟨g.B b, o', none⟩) := hpv
      rw [hpv'] at key
      cases ha : i.agg
      · rw [ha] at e
        simp only [cond_false] at e
        split at e
        · rename_i c hc
          obtain rfl := Option.some.inj e
          obtain ⟨v, hv, hk⟩ := hl.get _ _ hc
          refine key v (load_one hT ha ?_) ⟨c, rfl, hk.1⟩
          rw [cell_of_row w _ _ _ _ _ hh]
          have hlt := (List.getElem?_eq_some_iff.1 hv).1
          simpa [List.getElem?_append_left hlt] using hv
        · cases e
      · rw [ha] at e
        simp only [cond_true] at e
        cases hle : Nat.ble (o' + i.size) cells.length
        · rw [hle] at e; cases e
        · rw [hle] at e
          obtain rfl := Option.some.inj e
          have hle := ble_true hle
          have hll := hl.length
          exact key _ (load_agg hT ha (by simp; omega) (range_part hh o' i.size (by omega))) ⟨_, rfl, (hl.drop o').take i.size⟩
    · cases e
  · rename_i row
    obtain ⟨b, o', hv, hS, hx⟩ := hpv
    rw [hv] at key
    have hcells0 : ∀ n, n ≤ row.length → ∃ l : List Value, w.rangeAt b o' l ∧ All2 (RepK g w) ((row.take n).map .d) l ∧ l.length = n := by
      intro n hle
      have : ∀ (q : List DV) (o'' : Nat), (∀ (j : Nat) (x : DV), q[j]? = some x → ∃ u, w.cell? ⟨b, o'' + j, none⟩ = some u ∧ RepD g.S w x u) → ∃ l : List Value, w.rangeAt b o'' l ∧ All2 (RepK g w) (q.map .d) l := by
        intro q
        induction q with
        | nil => exact fun _ _ => ⟨[], fun j v hj => by simp at hj, .nil⟩
        | cons x q ih =>
          intro o'' hq
          obtain ⟨u, hu, hr⟩ := hq 0 x rfl
          obtain ⟨l, hl1, hl2⟩ := ih (o'' + 1) (fun j y hj => by
            have := hq (j + 1) y (by simpa using hj)
            rwa [show o'' + (j + 1) = o'' + 1 + j by omega] at this)
          refine ⟨u :: l, fun j v hj => ?_, .cons ⟨hr, RepD.one hr⟩ hl2⟩
          cases j with
          | zero => simp at hj; subst hj; exact hu
          | succ j => rw [show o'' + (j + 1) = o'' + 1 + j by omega]; exact hl1 j v (by simpa using hj)
      obtain ⟨l, h1, h2⟩ := this (row.take n) o' (fun j x hj => hx j x (by
        rw [List.getElem?_take] at hj
        split at hj
        · exact hj
        · cases hj))
      exact ⟨l, h1, h2, by rw [← h2.length]; simp; omega⟩
    cases ha : i.agg
    · rw [ha] at e
      simp only [cond_false] at e
      obtain ⟨hz, e2⟩ := b_true e
      obtain ⟨hl, e3⟩ := typedF_eq e2
      have hz := Nat.eq_of_beq_eq_true hz
      rw [hz] at hl e3
      obtain rfl := Option.some.inj e3
      cases row with
      | nil => simp at hl
      | cons x rest =>
        obtain ⟨u, hu, hr⟩ := hx 0 x rfl
        exact key u (load_one hT ha hu) ⟨_, rfl, hr⟩
    · rw [ha] at e
      simp only [cond_true] at e
      obtain ⟨hz, e2⟩ := b_true e
      obtain ⟨hl, e3⟩ := typedF_eq e2
      have hz := Nat.eq_of_beq_eq_true hz
      rw [hz] at hl e3
      obtain rfl := Option.some.inj e3
      obtain ⟨l, h1, h2, h3⟩ := hcells0 _ hl
      exact key _ (load_agg hT ha h3 h1) ⟨_, rfl, h2⟩
  · cases e
theorem val_nilCheck (h : Rel E g s a w) {x : Operand} (ho : o.op = .nilCheck x) (e : valF X o s some = some r) : V P o a g w r := by
  unfold valF at e
  simp only [ho] at e
  split at e
  · rename_i b f hx
    obtain rfl := Option.some.inj e
    have hv := evC_ok h hx
    have hv' : a.eval x = .pointer (some ⟨g.B b, f, none⟩) := hv
    exact V.same (v := a.eval x) (by simp [execOp, ho, hv']) (RepA.c hv)
  · rename_i row hx
    obtain rfl := Option.some.inj e
    have hv := evC_ok h hx
    obtain ⟨b, f, hv', _⟩ := id hv
    exact V.same (v := a.eval x) (by simp [execOp, ho, hv']) (RepA.c hv)
  · rename_i f c hx
    obtain rfl := Option.some.inj e
    have hv := evC_ok h hx
    have hv' : a.eval x = .func (.func f) #[] _ := hv
    exact V.same (v := a.eval x) (by rw [hv']; simp only [execOp, ho, hv']; rfl) (RepA.c hv)
  · cases e
theorem val_move (h : Rel E g s a w) {x : Operand} (ho : o.op = .move x ∨ o.op = .assign x) {v : AV} (e : ev X s (o.dst.getD 0) o.type x = some v) : V P o a g w v :=
  V.same (v := a.eval x) (by rcases ho with ho | ho <;> simp [execOp, ho]) (ev_ok h e)
theorem val_pick (h : Rel E g s a w) {c x y : Operand} (ho : o.op = .pick c x y) (e : valF X o s some = some r) : V P o a g w r := by
  unfold valF at e
  simp only [ho] at e
  split at e
  · rename_i b hc
    have hb := evB_ok h hc
    cases b with
    | true =>
      simp only [cond_true] at e
      split at e
      · rename_i v hv
        obtain rfl := Option.some.inj e
        exact V.same (v := a.eval x) (by simp [execOp, ho, hb, asBool]) (RepA.c (evC_ok h hv))
      · cases e
    | false =>
      simp only [cond_false] at e
      split at e
      · rename_i v hv
        obtain rfl := Option.some.inj e
        exact V.same (v := a.eval y) (by simp [execOp, ho, hb, asBool]) (RepA.c (evC_ok h hv))
      · cases e
  · cases e
theorem val_extract (h : Rel E g s a w) {x : Operand} {i : Nat} (ho : o.op = .extract x i) (e : valF X o s some = some r) : V P o a g w r := by
  unfold valF at e
  simp only [ho] at e
  split at e
  case h_2 => cases e
  rename_i t
  split at e
  · rename_i vs hvs
    split at e
    · rename_i ag cs hg
      obtain rfl := Option.some.inj e
      have := h.tm t
      rw [hvs] at this
      obtain ⟨l, hv, hl⟩ := this
      obtain ⟨u, hu, hr⟩ := hl.get _ _ hg
      refine V.same (v := u) (by
        have hv' : a.eval (.tmp t) = .tuple l.toArray := hv
        simp [execOp, ho, hv', Instr.extract, hu]) ?_
      cases ag
      · exact hr
      · exact hr
    · cases e
  · cases e
theorem val_len (hty : ∀ t i, X.ty t = some i → TyOK P t i) (h : Rel E g s a w) {c : Call} (ho : o.op = .call c) (hcal : c.callee = .builtin .len) (e : valF X o s some = some r) : V P o a g w r := by
  unfold valF at e
  simp only [ho, hcal] at e
  obtain ⟨_, args, ts⟩ := c
  subst hcal
  split at e
  case h_2 => cases e
  rename_i x T hx hT
  obtain rfl : args = #[x] := Array.ext' hx
  obtain rfl : ts = #[T] := Array.ext' hT
  clear hx hT
  split at e
  · rename_i c hc
    have hv := evC_ok h hc
    unfold lenF at e
    split at e
    · rename_i b o' n c'
      obtain ⟨hrow, e⟩ := b_true e
      obtain rfl := Option.some.inj e
      unfold isRow at hrow
      split at hrow
      case h_2 => cases hrow
      rename_i i hi
      split at hrow
      case h_2 => cases hrow
      rename_i el hdesc
      have hu := (hty _ _ hi).und
      rw [hdesc] at hu
      have hform : ∃ ad cc, a.eval x = .slice ad n cc := by
        rcases c' with _ | c'
        · obtain ⟨cc, hh, _⟩ := hv; exact ⟨_, _, hh⟩
        · exact ⟨_, _, hv.1⟩
      obtain ⟨ad, cc, hxe⟩ := hform
      exact V.same (v := .int .i64 n) (by rw [execOp]; simp [ho, resolve, invoke, builtin, hxe, Builtin.len_, run_underlying hu, goInt]) (RepA.dint _ _)
    split at e
    · rename_i i x' hi hx
      have hd := RepC.dv hv hx
      have hT := hty _ _ hi
      have key : ∀ n : Int, (Builtin.len_ #[T] o.type #[a.eval x]).run P w = .ok (.int .i64 n) w → V P o a g w (.int .i64 n) := fun n hr =>
        V.same (v := .int .i64 n) (by simp [execOp, ho, resolve, invoke, builtin, hr]) (RepA.dint _ _)
      split at e
      · rename_i el k l hdesc
        obtain rfl := Option.some.inj e
        have hu := hT.und
        rw [hdesc] at hu
        refine key _ ?_
        generalize a.eval x = v at hd
        cases hd <;> simp [Builtin.len_, run_underlying hu, goInt]
      · rename_i el z xs hdesc
        obtain rfl := Option.some.inj e
        have hu := hT.und
        rw [hdesc] at hu
        refine key _ ?_
        generalize a.eval x = v at hd
        cases hd <;> simp [Builtin.len_, run_underlying hu, goInt]
      · rename_i b hdesc
        obtain rfl := Option.some.inj e
        have hu := hT.und
        rw [hdesc] at hu
        refine key _ ?_
        generalize a.eval x = v at hd
        cases hd
        simp [Builtin.len_, run_underlying hu, goInt]
      · cases e
    · cases e
  · cases e
theorem val_min (h : Rel E g s a w) {c : Call} (ho : o.op = .call c) (hcal : c.callee = .builtin .min) (e : valF X o s some = some r) : V P o a g w r := by
  unfold valF at e
  simp only [ho, hcal] at e
  obtain ⟨_, args, ts⟩ := c
  subst hcal
  split at e
  case h_2 => cases e
  rename_i x y hx
  obtain rfl : args = #[x, y] := Array.ext' hx
  split at e
  case h_2 => cases e
  rename_i k m k' n hm hn
  obtain rfl := Option.some.inj e
  have em := evI_ok h hm
  have en := evI_ok h hn
  refine V.same (v := .int k (bif ltI n m then n else m)) ?_ (RepA.dint _ _)
  have : (bif ltI n m then n else m) = if n < m then n else m := by
    rw [ltI_eq]
    by_cases hlt : n < m <;> simp [hlt]
  rw [this]
  simp [execOp, ho, resolve, invoke, builtin, em, en, run_min_int2]
end
end Go.Proofs.Ythmdefgepnkgiaa.Eng
