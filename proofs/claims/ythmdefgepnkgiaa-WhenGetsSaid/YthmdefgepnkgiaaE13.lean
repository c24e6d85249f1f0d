/- Operations one behind the other. Conditions: what is called keeps its promise; the types' table is the program's; the relation between the two states. -/
import Derived.Test.YthmdefgepnkgiaaE12
namespace Go.Proofs.Ythmdefgepnkgiaa.Eng
open Go
structure XOK (P : Program) (X : Ctx) : Prop where
  ty : ∀ t i, X.ty t = some i → TyOK P t i
  call : ∀ f as bs r, X.pre f as bs = true → (X.call f as bs).go some = some r → CallOK P f as bs r
section
variable {P : Program} {X : Ctx} {E : Ent} {g : Gh} {s s' : St} {a : Act} {w : World} {o : Oper}
theorem exec_val (hX : XOK P X) (hn : E.n = X.n) (h : Rel E g s a w) (hd : dstOk X.n o.dst = true) (e : valF X o s (fun v => some (s.put o.dst v)) = some s') : Goes P E o s' a w := by
  rw [valF_nat] at e
  obtain ⟨r, hr, e⟩ := Option.bind_eq_some_iff.1 e
  obtain rfl := Option.some.inj e
  obtain ⟨v, w', g', hrun, hst, hrep⟩ := val_ok hX.ty h hr
  intro next Q hnext
  exact wp_value hrun (hnext _ _ g' ((h.stay hst).put o.dst (by rw [hn]; exact hd) hrep))
theorem exec_ok (hX : XOK P X) (hn : E.n = X.n) (h : Rel E g s a w) {q : Option (List Nat)} (hd : dstOk X.n o.dst = true) (e : exec X q o s some = some s') : Goes P E o s' a w := by
  cases ho : o.op with
  | alloc T => exact exec_alloc hX.ty hn h ho hd e
  | box T x => exact exec_box hX.ty hn h ho hd e
  | store T p x => exact exec_store hX.ty h ho e
  | call c =>
    cases hc : c.callee with
    | value f => exact exec_call hX.call hn h ho hc hd e
    | invoke r m => unfold exec at e; simp only [ho, hc] at e; cases e
    | builtin b =>
      by_cases hb : b = .append
      · subst hb; exact exec_append hX.ty hn h ho hc hd e
      · have e' : valF X o s (fun v => some (s.put o.dst v)) = some s' := by
          unfold exec at e; simp only [ho, hc] at e
          cases b <;> first | exact e | exact absurd rfl hb
        exact exec_val hX hn h hd e'
  | _ => exact exec_val hX hn h hd (by unfold exec at e; simp only [ho] at e; exact e)
/-- One operation, with what guards it. -/
def Step1 (P : Program) (E : Ent) (ops : Array Oper) (o : Oper) (s' : St) (a : Act) (w : World) : Prop :=
  (Region.wanted o (yielded ops a.tmps) = true ∧ Goes P E o s' a w) ∨ (Region.wanted o (yielded ops a.tmps) = false ∧ ∃ g', Rel E g' s' (a.put o.dst undef) w)
theorem getD_some {l : Array Value} {t : Nat} {v : Value} (h : l.getD t undef = v) (hv : v ≠ undef) : l[t]? = some v := by
  rw [Array.getD_eq_getD_getElem?] at h
  cases hq : l[t]? with
  | none => rw [hq] at h; exact absurd h.symm hv
  | some u => rw [hq] at h; exact congrArg some h
theorem step1_ok (hX : XOK P X) (hn : E.n = X.n) (h : Rel E g s a w) {ops : Array Oper} {q : Option (List Nat)} (e : step1 X ops q o s some = some s') : Step1 P E ops o s' a w := by
  unfold step1 at e
  obtain ⟨hd, e⟩ := b_true e
  split at e
  · rename_i hg
    exact .inl ⟨by simp [Region.wanted, hg], exec_ok hX hn h hd e⟩
  · rename_i j want hg
    rw [told_nat] at e
    obtain ⟨b, hb, e⟩ := Option.bind_eq_some_iff.1 e
    have hw : Region.wanted o (yielded ops a.tmps) = b := by
      unfold told at hb
      split at hb
      case h_2 => cases hb
      rename_i oj hoj
      split at hb
      case h_2 => cases hb
      rename_i t ht
      have hy : yielded ops a.tmps j = match a.tmps[t]? with | some (.bool b) => some b | _ => none := by
        unfold yielded
        rw [hoj]
        simp only [Option.bind_some, ht]
        rfl
      simp only [Region.wanted, hg, hy]
      split at hb
      · rename_i v hv
        obtain rfl := Option.some.inj hb
        have hval : a.tmps.getD t undef = .bool v := by
          have := h.at_c hv
          have h2 : RepD g.S w (.bool v) (a.tmps.getD t undef) := this
          generalize a.tmps.getD t undef = u at h2
          cases h2; rfl
        rw [getD_some hval (by simp [undef])]
        cases v <;> cases want <;> rfl
      · rename_i hv
        obtain rfl := Option.some.inj hb
        have hval : a.tmps.getD t undef = undef := h.at_c hv
        cases hq : a.tmps[t]? with
        | none => rfl
        | some u =>
          rw [Array.getD_eq_getD_getElem?, hq] at hval
          have : u = undef := hval
          subst this
          rfl
      · cases hb
    cases b with
    | true =>
      simp only [cond_true] at e
      exact .inl ⟨hw, exec_ok hX hn h hd e⟩
    | false =>
      simp only [cond_false] at e
      obtain rfl := Option.some.inj e
      exact .inr ⟨hw, g, h.put o.dst (by rw [hn]; exact hd) ⟨_, rfl, rfl⟩⟩
theorem rowOf_flat {i : TI} {rows : List (List DV)} {x : DV} (h : rowOf i rows = some x) : flatC x = some (rows.flatten.map .d) ∧ x.count = rows.length := by
  unfold rowOf at h
  split at h
  · rename_i kk _
    obtain ⟨_, h⟩ := b_true h
    split at h
    · rename_i l hl'
      obtain rfl := Option.some.inj h
      have hr := intsIn_flat hl'
      subst hr
      refine ⟨?_, by simp [DV.count]⟩
      simp only [flatC]
      congr 1
      have key : ∀ l : List Int, List.map (fun n => CV.d (DV.int kk n)) l = List.map CV.d (List.map (fun n => [DV.int kk n]) l).flatten := by
        intro l
        induction l with
        | nil => rfl
        | cons a l ih => rw [List.map_cons, List.map_cons, List.flatten_cons, List.map_append, ← ih]; rfl
      exact key l
    · cases h
  · cases hs : Nat.beq i.size 0
    · rw [hs] at h
      obtain ⟨_, h⟩ := b_true h
      obtain rfl := Option.some.inj h
      exact ⟨rfl, rfl⟩
    · rw [hs] at h; cases h
/-- A row that is made and written to. -/
theorem stepB_ok (hX : XOK P X) (hn : E.n = X.n) (h : Rel E g s a w) (hm : isMake o.op = true) (e : stepB X o s some = some s') : Goes P E o s' a w := by
  unfold stepB at e
  split at e
  case h_2 => cases e
  rename_i d hdst
  obtain ⟨hd, e⟩ := b_true e
  rw [valF_nat] at e
  obtain ⟨r, hr, e⟩ := Option.bind_eq_some_iff.1 e
  have hN : VN P o a g w r := by
    cases ho : o.op with
    | makeSlice T x y => exact new_makeSlice hX.ty h ho hr
    | buildSlice T n ps => exact new_buildSlice hX.ty h ho hr
    | _ => rw [ho] at hm; simp [isMake] at hm
  obtain ⟨i, rows, x, vs, arr, el, c, t, rfl, hx, hv, ha, hl, hs, hrun⟩ := hN
  obtain ⟨hf, hcnt⟩ := rowOf_flat hx
  simp only [boxV, hf] at e
  obtain rfl := Option.some.inj e
  have hvl := hv.length
  have hvs : vs.length ≤ arr.size := by
    refine Classical.byContradiction fun hh => ?_
    have hlt : arr.size < vs.length := by omega
    have := ha arr.size _ (List.getElem?_eq_getElem hlt)
    simp at this
  have harr : arr = (vs ++ arr.toList.drop vs.length).toArray := by
    apply Array.ext'
    simp only []
    refine List.ext_getElem? fun j => ?_
    by_cases hj : j < vs.length
    · rw [List.getElem?_append_left hj, List.getElem?_eq_getElem hj]
      have := ha j _ (List.getElem?_eq_getElem hj)
      simpa using this
    · rw [List.getElem?_append_right (by omega), List.getElem?_drop, show vs.length + (j - vs.length) = j by omega]
  obtain ⟨g', hg⟩ := newBoxR_ok (d := d) (T := el) (r := some (x.count, none)) (v := .slice (some ⟨w.heap.size, 0, none⟩) rows.length c) h (by rw [hn]; simpa [dstOk] using hd) harr (hv.map_left .d fun _ _ hk => ⟨hk, RepD.one hk⟩) (fun g' w' hB => by
    rw [hcnt]; exact ⟨c, by rw [hB], hl⟩)
  intro next Q hnext
  exact wp_value hrun (hnext _ _ g' (by rw [hdst]; exact hg))
theorem steps_list (hX : XOK P X) (hn : E.n = X.n) {R : Type} {ops : Array Oper} {Q : Exit → Act → World → Prop} {K : St → Option R} {r : R} (hQ : ∀ s' a' w' g', K s' = some r → Rel E g' s' a' w' → Q .normal a' w') :
    ∀ (l : List (Option (List Nat) × Oper)) {s : St} {g : Gh} {a : Act} {w : World}, Rel E g s a w → steps X ops l s K = some r → wpList P ops Q (l.map (·.2)) a w
  | [], s, g, a, w, h, e => hQ _ _ _ _ e h
  | (q, o) :: l, s, g, a, w, h, e => by
    simp only [steps] at e
    rw [step1_nat] at e
    obtain ⟨s1, h1, e⟩ := Option.bind_eq_some_iff.1 e
    simp only [List.map_cons, wpList]
    rcases step1_ok hX hn h h1 with ⟨hw, hg⟩ | ⟨hw, g', hr⟩
    · rw [if_pos hw]
      exact .inl (hg _ _ fun a' w' g' hr => steps_list hX hn hQ l hr e)
    · rw [if_neg (by rw [hw]; simp)]
      exact steps_list hX hn hQ l hr e
theorem stepsM_list (hX : XOK P X) (hn : E.n = X.n) {R : Type} {ops : Array Oper} {Q : Exit → Act → World → Prop} {K : St → Option R} {r : R} (hQ : ∀ s' a' w' g', K s' = some r → Rel E g' s' a' w' → Q .normal a' w') :
    ∀ (l : List Oper) {s : St} {g : Gh} {a : Act} {w : World}, Rel E g s a w → stepsM X ops l s K = some r → wpList P ops Q l a w
  | [], s, g, a, w, h, e => hQ _ _ _ _ e h
  | o :: l, s, g, a, w, h, e => by
    simp only [stepsM] at e
    rw [refG_eq] at e
    simp only [wpList]
    cases hb : isBoxed X o
    · rw [hb] at e
      simp only [cond_false] at e
      rw [step1_nat] at e
      obtain ⟨s1, h1, e⟩ := Option.bind_eq_some_iff.1 e
      rcases step1_ok hX hn h h1 with ⟨hw, hg⟩ | ⟨hw, g', hr⟩
      · rw [if_pos hw]
        exact .inl (hg _ _ fun a' w' g' hr => stepsM_list hX hn hQ l hr e)
      · rw [if_neg (by rw [hw]; simp)]
        exact stepsM_list hX hn hQ l hr e
    · rw [hb] at e
      simp only [cond_true] at e
      rw [stepB_nat] at e
      obtain ⟨s1, h1, e⟩ := Option.bind_eq_some_iff.1 e
      unfold isBoxed at hb
      split at hb
      case h_2 => cases hb
      simp only [Bool.and_eq_true] at hb
      have hw : Region.wanted o (yielded ops a.tmps) = true := by
        have := hb.1.2
        simp [Option.isNone_iff_eq_none] at this
        simp [Region.wanted, this]
      rw [if_pos hw]
      exact .inl (stepB_ok hX hn h hb.2 h1 _ _ fun a' w' g' hr => stepsM_list hX hn hQ l hr e)
end
end Go.Proofs.Ythmdefgepnkgiaa.Eng
