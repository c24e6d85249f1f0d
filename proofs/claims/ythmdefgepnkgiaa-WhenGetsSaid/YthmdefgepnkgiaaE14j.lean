/- Rounds over what an iterator gives: what lies in memory meanwhile. Conditions: the iterator keeps its promise. -/
import Derived.Test.YthmdefgepnkgiaaE14i
import Derived.RangeFuncSeq
namespace Go.Proofs.Ythmdefgepnkgiaa.Eng
open Go
/-- Cells stay, and whatever lies below B; new blocks may come. -/
structure Mild (w w' : World) (B : Nat) : Prop where
  os : w'.os = w.os
  out : w'.output = w.output
  tape : w'.tape = w.tape
  size : w.heap.size ≤ w'.heap.size
  keep : ∀ b, b < w.heap.size → (b < B ∨ ∃ arr t st, w.heap[b]? = some (.cells arr t st)) → w'.heap[b]? = w.heap[b]?
theorem Mild.mono {w w' : World} {B B' : Nat} (h : Mild w w' B) (hb : B' ≤ B) : Mild w w' B' :=
  ⟨h.os, h.out, h.tape, h.size, fun b hl hh => h.keep b hl (hh.imp (fun h => Nat.lt_of_lt_of_le h hb) id)⟩
theorem Mild.trans {w w' w'' : World} {B : Nat} (h : Mild w w' B) (k : Mild w' w'' B) : Mild w w'' B :=
  ⟨k.os.trans h.os, k.out.trans h.out, k.tape.trans h.tape, Nat.le_trans h.size k.size, fun b hl hh => by
    have e := h.keep b hl hh
    rw [← e]
    refine k.keep b (Nat.lt_of_lt_of_le hl h.size) (hh.imp id fun ⟨arr, t, st, hc⟩ => ⟨arr, t, st, by rw [e]; exact hc⟩)⟩
theorem Mild.alloc (w : World) (o : Obj) (B : Nat) : Mild w (w.alloc o) B :=
  ⟨rfl, rfl, rfl, by simp, fun b hl _ => by first | exact heap_alloc_old _ _ hl | exact heap_alloc_old _ _ _ hl⟩
theorem Mild.put {w : World} {l : Nat} {o o' : Obj} (h : w.heap[l]? = some o) (hc : ∀ arr t st, o ≠ .cells arr t st) : Mild w (w.putObj l o') l :=
  ⟨rfl, rfl, rfl, by simp, fun b _ hh => World.putObj_heap_other fun e => by
    subst e
    rcases hh with hh | ⟨arr, t, st, hh⟩
    · omega
    · rw [h] at hh; exact hc _ _ _ (Option.some.inj hh)⟩
theorem cells_of {w : World} {b o : Nat} {v : Value} (h : w.cell? ⟨b, o, none⟩ = some v) : ∃ arr t st, w.heap[b]? = some (.cells arr t st) := by
  unfold World.cell? at h
  split at h
  · rename_i c t st hh; exact ⟨c, t, st, hh⟩
  · cases h
section
variable {E : Ent} {g : Gh} {w w' : World} {B : Nat}
theorem Mild.ext (m : Mild w w' B) (S : Nat → Nat) : Ext S w S w' :=
  ⟨fun _ => Nat.le_refl _, fun b o v _ hv => by
    rw [cell_of_heap (m.keep b (World.block_lt_of_cell? w _ hv) (.inr (cells_of hv)))]; exact hv⟩
theorem Mild.owned (m : Mild w w' B) (t : Nat) (x : DV) (v : Value) (h : Owned g w t x v) : Owned g w' t x v := by
  rcases h with h | ⟨b, cap, arr, e, hv, hw, hh, hr⟩
  · exact .inl h
  · exact .inr ⟨b, cap, arr, e, hv, hw, by rw [m.keep b (Array.getElem?_eq_some_iff.1 hh).1 (.inr ⟨_, _, _, hh⟩)]; exact hh, hr⟩
theorem Mild.c (m : Mild w w' B) : ∀ c v, RepC g w c v → RepC g w' c v := RepC.go (m.ext g.S) m.owned (fun _ => rfl)
theorem Mild.box (m : Mild w w' B) {b : Nat} {cells : List CV} (h : BoxAt g w b cells) : BoxAt g w' b cells := by
  obtain ⟨h1, h2, l, q, e, hh, hl⟩ := h
  exact ⟨h1, h2, l, q, e, by rw [m.keep _ (Array.getElem?_eq_some_iff.1 hh).1 (.inr ⟨_, _, _, hh⟩)]; exact hh, All2.mono (fun c v hk => ⟨m.c c v hk.1, hk.2⟩) hl⟩
theorem Mild.ok (m : Mild w w' B) (hB : E.w0.heap.size ≤ B) (h : OKW E g w) : OKW E g w' :=
  ⟨m.os.trans h.os, m.out.trans h.out, m.tape.trans h.tape, Nat.le_trans h.size m.size, fun b hb => h.fresh b (Nat.le_trans m.size hb), h.oldS,
    fun b hb hw => by rw [m.keep b (Nat.lt_of_lt_of_le hb h.size) (.inl (Nat.lt_of_lt_of_le hb hB))]; exact h.old b hb hw, h.pB, h.ext.trans (m.ext g.S)⟩
/-- A call's world, from here on. -/
theorem OKW.self (h : OKW E g w) (n : Nat) (df : List Deferred) (top : Nat) : OKW ⟨w, g.S, g.who, g.B, n, df, top⟩ g w :=
  ⟨rfl, rfl, rfl, Nat.le_refl _, h.fresh, fun _ _ => ⟨fun _ => rfl, rfl⟩, fun _ _ _ => rfl, fun _ _ _ => rfl, Ext.refl _ _⟩
theorem OKW.trans {n : Nat} {df : List Deferred} {top : Nat} {g' : Gh} (h : OKW E g w) (ht : E.top ≤ top) (k : OKW ⟨w, g.S, g.who, g.B, n, df, top⟩ g' w') : OKW E g' w' := by
  refine ⟨k.os.trans h.os, k.out.trans h.out, k.tape.trans h.tape, Nat.le_trans h.size k.size, k.fresh, fun b hb => ?_, fun b hb hw => ?_, fun b hb htp => ?_, h.ext.trans k.ext⟩
  · have hb' : b < w.heap.size := Nat.lt_of_lt_of_le hb h.size
    have h1 := h.oldS b hb
    have h2 := k.oldS b hb'
    refine ⟨fun hn => ?_, h2.2.trans h1.2⟩
    exact (h2.1 (fun t => by show g.who b ≠ _; rw [h1.2]; exact hn t)).trans (h1.1 hn)
  · have hb' : b < w.heap.size := Nat.lt_of_lt_of_le hb h.size
    exact (k.old b hb' (by show g.who b = none; rw [(h.oldS b hb).2]; exact hw)).trans (h.old b hb hw)
  · exact (k.pB b hb (Nat.lt_of_lt_of_le htp ht)).trans (h.pB b hb htp)
end
/-! ### Other names for boxes -/
def renGB (B : Nat → Nat) (b : Nat) : Nat := if 2 * passed ≤ b ∧ b < 3 * passed then B (b - 2 * passed) else B b
def renO : Option Owner → Option Owner
  | some (.box b) => some (.box (if b < passed then 2 * passed + b else if b < 2 * passed then b else b + passed))
  | o => o
def renG (g : Gh) : Gh := ⟨g.S, fun k => renO (g.who k), renGB g.B⟩
theorem blt_iff (a b : Nat) : Nat.blt a b = decide (a < b) := by
  have : Nat.blt a b = Nat.ble (a + 1) b := rfl
  rw [this]
  cases h : Nat.ble (a + 1) b
  · have : ¬ a + 1 ≤ b := fun hh => by rw [Nat.ble_eq_true_of_le hh] at h; cases h
    exact (decide_eq_false (by omega)).symm
  · have := Nat.le_of_ble_eq_true h
    exact (decide_eq_true (by omega)).symm
theorem renB_ok {B : Nat → Nat} {b b' : Nat} (h : renB b = some b') : renGB B b' = B b ∧ passed ≤ b' ∧ b' < 3 * passed ∧ renO (some (.box b)) = some (.box b') := by
  unfold renB at h
  rw [blt_iff, blt_iff] at h
  by_cases h1 : b < passed
  · simp only [h1, decide_true, cond_true] at h
    obtain rfl := Option.some.inj h
    refine ⟨?_, by omega, by omega, by simp [renO, h1]⟩
    unfold renGB
    rw [if_pos ⟨by omega, by omega⟩, Nat.add_sub_cancel_left]
  · by_cases h2 : b < 2 * passed
    · simp only [h1, h2, decide_true, decide_false, cond_true, cond_false] at h
      obtain rfl := Option.some.inj h
      refine ⟨?_, by omega, by omega, by simp [renO, h1, h2]⟩
      unfold renGB
      rw [if_neg (by omega)]
    · simp [h1, h2] at h
theorem renCaps_ok {B : Nat → Nat} : ∀ {caps caps' : List (Nat × Nat)}, renCaps caps = some caps' → (caps'.map fun c => Value.pointer (some ⟨renGB B c.1, c.2, none⟩)) = caps.map (fun c => Value.pointer (some ⟨B c.1, c.2, none⟩)) ∧ ∀ c ∈ caps', passed ≤ c.1 ∧ c.1 < 3 * passed
  | [], caps', h => by obtain rfl := Option.some.inj h; simp
  | c :: r, caps', h => by
    simp only [renCaps] at h
    split at h
    case h_2 => cases h
    rename_i b l hb hl
    obtain rfl := Option.some.inj h
    obtain ⟨h1, h2, h3, _⟩ := renB_ok (B := B) hb
    obtain ⟨h4, h5⟩ := renCaps_ok (B := B) hl
    refine ⟨by simp [h1, h4], fun c' hc => ?_⟩
    rcases List.mem_cons.1 hc with rfl | hc
    · exact ⟨h2, h3⟩
    · exact h5 c' hc
section
variable {E : Ent} {g g' : Gh} {w w' : World}
theorem ren_own (t : Nat) (x : DV) (v : Value) (h : Owned g w t x v) : Owned (renG g) w t x v := by
  rcases h with h | ⟨b, cap, arr, e, hv, hw, hr⟩
  · exact .inl h
  · exact .inr ⟨b, cap, arr, e, hv, by simp [renG, hw, renO], hr⟩
theorem ren_c (k : Bool) (c : CV) (v : Value) (h : RepC g w c v) : RepC (renG g) w (c.ren k) v := by
  cases c with
  | d x => exact h
  | own t x =>
    cases k
    · exact h.1
    · exact ⟨h.1, ren_own _ _ _ h.2⟩
  | fn f caps =>
    simp only [CV.ren]
    cases hc : renCaps caps with
    | none => trivial
    | some l =>
      have := (renCaps_ok (B := g.B) hc).1
      simp only [RepC] at h ⊢
      rw [h]
      show _ = Value.func (.func f) #[] (l.map fun c => Value.pointer (some ⟨renGB g.B c.1, c.2, none⟩)).toArray
      rw [this]
  | ptr b o q =>
    simp only [CV.ren]
    cases hb : renB b with
    | none => trivial
    | some b' => exact RepC.ptr_iff (g := g) (show renGB g.B b' = g.B b from (renB_ok (B := g.B) hb).1) h
  | ep row => exact h
  | clo f caps => exact h
  | yl l => trivial
  | u => trivial
  | un => exact h
theorem ren_box {bx : BX} (h : ∀ b cells, bx b = some cells → BoxAt g w b cells) {b : Nat} {cells : List CV} (hb : renBx bx b = some cells) : BoxAt (renG g) w b cells := by
  have key : ∀ b0 cs, bx b0 = some cs → renB b0 = some b → BoxAt (renG g) w b (cs.map (CV.ren true)) := by
    intro b0 cs hcs hren
    obtain ⟨h1, h2, l, q, e, hh, hl⟩ := h b0 cs hcs
    obtain ⟨k1, _, _, k4⟩ := renB_ok (B := g.B) hren
    refine ⟨?_, ?_, l, q, e, ?_, All2.map_left _ (fun c v hk => ⟨ren_c true c v hk.1, hk.2⟩) hl⟩
    · show renO (g.who (renGB g.B b)) = _
      rw [k1, h1, k4]
    · show g.S (renGB g.B b) = 0
      rw [k1]; exact h2
    · show w.heap[renGB g.B b]? = _
      rw [k1]; exact hh
  unfold renBx at hb
  rw [blt_iff, blt_iff, blt_iff] at hb
  by_cases h1 : b < passed
  · simp [h1] at hb
  · by_cases h2 : b < 2 * passed
    · simp only [h1, h2, decide_false, decide_true, cond_false, cond_true] at hb
      obtain ⟨cs, hcs, rfl⟩ := Option.map_eq_some_iff.1 hb
      exact key b cs hcs (by simp [renB, blt_iff, h1, h2])
    · by_cases h3 : b < 3 * passed
      · simp only [h1, h2, h3, decide_false, decide_true, cond_false, cond_true] at hb
        obtain ⟨cs, hcs, rfl⟩ := Option.map_eq_some_iff.1 hb
        refine key _ cs hcs ?_
        have : b - 2 * passed < passed := by omega
        simp only [renB, blt_iff, this, decide_true, cond_true]
        exact congrArg some (by omega)
      · simp [h1, h2, h3] at hb
/-- What was told under the other names stays, where these boxes stay. -/
theorem ren_stays (k : Ext g.S w g'.S w') (hB : ∀ b, passed ≤ b → b < 3 * passed → g'.B b = g.B b) (c : CV) (v : Value) (h : RepC g w (c.ren false) v) : RepC g' w' (c.ren false) v := by
  cases c with
  | d x => exact RepD.mono k h
  | own t x => exact RepD.mono k h
  | fn f caps =>
    simp only [CV.ren] at h ⊢
    cases hc : renCaps caps with
    | none => trivial
    | some l =>
      rw [hc] at h
      simp only [RepC] at h ⊢
      rw [h]
      congr 2
      refine List.map_congr_left fun c hm => ?_
      obtain ⟨h1, h2⟩ := (renCaps_ok (B := g.B) hc).2 c hm
      rw [hB _ h1 h2]
  | ptr b o q =>
    simp only [CV.ren] at h ⊢
    cases hb : renB b with
    | none => trivial
    | some b' =>
      rw [hb] at h
      obtain ⟨_, h2, h3, _⟩ := renB_ok (B := g.B) hb
      exact RepC.ptr_iff (hB _ h2 h3) h
  | ep row => exact EpAt.mono k h
  | clo f caps => obtain ⟨ps, hv, hp⟩ := h; exact ⟨ps, hv, hp.mono fun _ _ => EpAt.mono k⟩
  | yl l => trivial
  | u => trivial
  | un => exact h
theorem ren_staysA (k : Ext g.S w g'.S w') (hB : ∀ b, passed ≤ b → b < 3 * passed → g'.B b = g.B b) {tm : TM} {t : Nat} {v : Value} (h : RepA g w (renTm tm t) v) : RepA g' w' (renTm tm t) v := by
  unfold renTm at h ⊢
  generalize tm t = y at h ⊢
  cases y with
  | one a cs =>
    cases a with
    | true =>
      obtain ⟨l, hv, hl⟩ := h
      refine ⟨l, hv, All2.of_get hl.length fun j c u hj hu => ?_⟩
      obtain ⟨u', hu', hk⟩ := hl.get j c hj
      rw [hu] at hu'
      obtain rfl := Option.some.inj hu'
      rw [List.getElem?_map] at hj
      obtain ⟨c0, _, rfl⟩ := Option.map_eq_some_iff.1 hj
      exact ⟨ren_stays k hB c0 u hk.1, hk.2⟩
    | false =>
      obtain ⟨c, hc, hr⟩ := h
      cases cs with
      | nil => cases hc
      | cons c0 cs =>
        cases cs with
        | nil =>
          simp only [List.map_cons, List.map_nil, List.cons.injEq, and_true] at hc
          subst hc
          exact ⟨_, rfl, ren_stays k hB c0 v hr⟩
        | cons c1 cs => simp at hc
  | tup vs =>
    obtain ⟨l, hv, hl⟩ := h
    refine ⟨l, hv, All2.of_get hl.length fun j p u hj hu => ?_⟩
    obtain ⟨u', hu', hk⟩ := hl.get j p hj
    rw [hu] at hu'
    obtain rfl := Option.some.inj hu'
    rw [List.getElem?_map] at hj
    obtain ⟨⟨a, cs⟩, _, rfl⟩ := Option.map_eq_some_iff.1 hj
    cases a with
    | true =>
      obtain ⟨l, hv, hl⟩ := hk
      refine ⟨l, hv, All2.of_get hl.length fun j c u hj hu => ?_⟩
      obtain ⟨u', hu', hk⟩ := hl.get j c hj
      rw [hu] at hu'
      obtain rfl := Option.some.inj hu'
      simp only [List.getElem?_map] at hj
      obtain ⟨c0, _, rfl⟩ := Option.map_eq_some_iff.1 hj
      exact ⟨ren_stays k hB c0 u hk.1, hk.2⟩
    | false =>
      obtain ⟨c, hc, hr⟩ := hk
      cases cs with
      | nil => cases hc
      | cons c0 cs =>
        cases cs with
        | nil =>
          simp only [List.map_cons, List.map_nil, List.cons.injEq, and_true] at hc
          subst hc
          exact ⟨_, rfl, ren_stays k hB c0 _ hr⟩
        | cons c1 cs => simp at hc
end
/-- New blocks, of which something is told. -/
def Gh.more (g : Gh) (A : World) (S' : Nat → Nat) : Gh := ⟨fun b => if b < A.heap.size then g.S b else S' b, g.who, g.B⟩
section
variable {E : Ent} {g : Gh} {A B : World} {S' : Nat → Nat}
theorem more_ext (h : OKW E g A) (m : Mild A B A.heap.size) : Ext g.S A (g.more A S').S B := by
  refine ⟨fun b => ?_, fun b o v ho hv => (m.ext g.S).cell b o v ho hv⟩
  simp only [Gh.more]
  split
  · exact Nat.le_refl _
  · rw [(h.fresh b (by omega)).1]; exact Nat.zero_le _
theorem more_own (m : Mild A B A.heap.size) (t : Nat) (x : DV) (v : Value) (h : Owned g A t x v) : Owned (g.more A S') B t x v := by
  rcases h with h | ⟨b, cap, arr, e, hv, hw, hh, h1, h2, h3⟩
  · exact .inl h
  · have hb := (Array.getElem?_eq_some_iff.1 hh).1
    exact .inr ⟨b, cap, arr, e, hv, hw, by rw [m.keep b hb (.inl hb)]; exact hh, h1, h2, by simp only [Gh.more, if_pos hb]; exact h3⟩
theorem more_c (h : OKW E g A) (m : Mild A B A.heap.size) : ∀ c v, RepC g A c v → RepC (g.more A S') B c v := RepC.go (more_ext h m) (more_own m) (fun _ => rfl)
theorem more_box (h : OKW E g A) (m : Mild A B A.heap.size) {b : Nat} {cells : List CV} (hb : BoxAt g A b cells) : BoxAt (g.more A S') B b cells := by
  obtain ⟨h1, h2, l, q, e, hh, hl⟩ := hb
  have hlt := (Array.getElem?_eq_some_iff.1 hh).1
  exact ⟨h1, by show (if g.B b < A.heap.size then g.S (g.B b) else S' (g.B b)) = 0; rw [if_pos hlt]; exact h2, l, q, e, by show B.heap[g.B b]? = _; rw [m.keep _ hlt (.inl hlt)]; exact hh, All2.mono (fun c v hk => ⟨more_c h m c v hk.1, hk.2⟩) hl⟩
theorem more_ok (h : OKW E g A) (m : Mild A B A.heap.size) (hS : ∀ b, B.heap.size ≤ b → S' b = 0) : OKW E (g.more A S') B := by
  have k := m.ok h.size h
  refine ⟨k.os, k.out, k.tape, k.size, fun b hb => ⟨?_, (k.fresh b hb).2⟩, fun b hb => ⟨fun ht => ?_, (k.oldS b hb).2⟩, k.old, k.pB, h.ext.trans (more_ext h m)⟩
  · have : ¬ b < A.heap.size := by have := m.size; omega
    simp only [Gh.more, if_neg this]; exact hS b hb
  · have : b < A.heap.size := Nat.lt_of_lt_of_le hb h.size
    simp only [Gh.more, if_pos this]; exact (k.oldS b hb).1 ht
end
/-! ### What an iterator promises -/
def RepX (S : Nat → Nat) (w : World) (p : Bool × List DV) (v : Value) : Prop :=
  match p with
  | (true, row) => ∃ l, v = .agg (List.toArray l) ∧ All2 (fun x u => RepD S w x u) row l
  | (false, row) => ∃ x, row = [x] ∧ RepD S w x v
theorem RepX.mono {S S' : Nat → Nat} {w w' : World} (e : Ext S w S' w') {p : Bool × List DV} {v : Value} (h : RepX S w p v) : RepX S' w' p v := by
  obtain ⟨a, row⟩ := p
  cases a with
  | true => obtain ⟨l, hv, hl⟩ := h; exact ⟨l, hv, hl.mono fun _ _ => RepD.mono e⟩
  | false => obtain ⟨x, hx, hr⟩ := h; exact ⟨x, hx, RepD.mono e hr⟩
theorem RepX.rep {g : Gh} {w : World} {p : Bool × List DV} {v : Value} (h : RepX g.S w p v) : RepA g w (AV.ofD p) v := by
  obtain ⟨a, row⟩ := p
  cases a with
  | true => obtain ⟨l, hv, hl⟩ := h; exact ⟨l, hv, All2.map_left _ (fun _ _ h => ⟨h, RepD.one h⟩) hl⟩
  | false => obtain ⟨x, hx, hr⟩ := h; subst hx; exact ⟨_, rfl, hr⟩
/-- What is kept, S: whatever the iterator itself has laid may be added to it. -/
def Grows (S : Nat → Nat) (A : World) (S' : Nat → Nat) (B : World) : Prop :=
  Mild A B A.heap.size ∧ (∀ b, b < A.heap.size → S' b = S b) ∧ (∀ b, B.heap.size ≤ b → S' b = 0)
def IterOK (P : Program) (f : FuncId) (rows : List (List DV)) (xs : List (List (Bool × List DV))) : Prop :=
  (∃ fn, P.funcs[f]? = some fn ∧ (fn.name == "runtime.NumGoroutine") = false ∧ fn.body.isNone = false) ∧
  ∀ (S : Nat → Nat) (w : World) (ps : List Value), (∀ b, w.heap.size ≤ b → S b = 0) → All2 (EpAt S w) rows ps → ∀ (n l : Nat) (J Jx : Nat → (Nat → Nat) → World → Prop),
    (∀ i S A S' B, J i S A → Grows S A S' B → J i S' B) → (∀ i S A S' B, Jx i S A → Grows S A S' B → Jx i S' B) →
    (∀ m i S x vals W, xs[i]? = some x → J i S W → All2 (RepX S W) x vals → YieldAt (FW none) m P l vals.toArray W fun e W' =>
      W.heap.size ≤ W'.heap.size ∧ ((e = .returned (.bool true) ∧ J (i + 1) S W' ∧ Ext S W S W') ∨ (e = .returned (.bool false) ∧ Jx i S W'))) →
    J 0 S w → CallsIn (FW none) n P f (#[.func (.yield l) #[] #[]] ++ ps.toArray) w fun e W' => (∃ v, e = .returned v) ∧ ((∃ S', J xs.length S' W') ∨ ∃ i S', Jx i S' W')
end Go.Proofs.Ythmdefgepnkgiaa.Eng
