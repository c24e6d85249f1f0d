/- What a function comes to. Conditions: the tables are the program's; what is taken from elsewhere keeps its promise. -/
import Derived.Test.YthmdefgepnkgiaaE15
namespace Go.Proofs.Ythmdefgepnkgiaa.Eng
open Go
section
variable {P : Program} {X : Ctx} {E : Ent} {ops : Array Oper} {o : Oper}
/-! ### Results -/
abbrev RepP (g : Gh) (w : World) (p : Bool × List CV) (u : Value) : Prop :=
  match p with
  | (true, cs) => ∃ l, u = .agg (List.toArray l) ∧ All2 (RepK g w) cs l
  | (false, cs) => ∃ c, cs = [c] ∧ RepC g w c u
theorem RepP_iff {g : Gh} {w : World} {b : Bool} {cs : List CV} {u : Value} : RepP g w (b, cs) u ↔ RepA g w (.one b cs) u := by cases b <;> rfl
def resSem (tmps : Array Value) : ResultVar → Sem Value
  | .tmp t => pure (tmps.getD t undef)
  | .cell a t => do loadVar t (← asAddr (tmps.getD a undef))
theorem resOne_ok (hX : XOK P X) {g : Gh} {s : St} {a : Act} {w : World} (h : Rel E g s a w) {rv : ResultVar} {p : Bool × List CV} (e : resOne X s rv = some p) : ∃ u, (resSem a.tmps rv).run P w = .ok u w ∧ RepP g w p u := by
  unfold resOne at e
  split at e
  · rename_i t
    have ht := h.tm t
    unfold AV.cells at e
    split at e
    · rename_i ag cs hs
      obtain rfl := Option.some.inj e
      rw [hs] at ht
      exact ⟨_, rfl, RepP_iff.2 ht⟩
    · cases e
  · rename_i t T
    split at e
    case h_2 => cases e
    rename_i i b o' hi ht
    split at e
    case h_2 => cases e
    rename_i cells hcells
    have hv : a.tmps.getD t undef = .pointer (some ⟨g.B b, o', none⟩) := h.at_c ht
    obtain ⟨_, _, l, q2, et, hh, hl⟩ := h.bx b cells hcells
    have hT := hX.ty _ _ hi
    have key : ∀ u, (Instr.loadAt T (.pointer (some ⟨g.B b, o', none⟩))).run P w = .ok u w → (resSem a.tmps (.cell t T)).run P w = .ok u w := by
      intro u hu
      simp only [Instr.loadAt, Instr.sureAddr, Sem.run_bind, Sem.run_pure, Result.andThen_ok] at hu
      simp only [resSem, hv, asAddr, Sem.run_bind, Sem.run_pure, Result.andThen_ok, hu]
    cases ha : i.agg
    · rw [ha] at e
      simp only [cond_false] at e
      split at e
      · rename_i c hc
        obtain rfl := Option.some.inj e
        obtain ⟨v, hv', hk⟩ := hl.get _ _ hc
        refine ⟨v, key v (load_one hT ha ?_), ⟨c, rfl, hk.1⟩⟩
        rw [cell_of_row w _ _ _ _ _ hh]
        have hlt := (List.getElem?_eq_some_iff.1 hv').1
        simpa [List.getElem?_append_left hlt] using hv'
      · cases e
    · rw [ha] at e
      simp only [cond_true] at e
      obtain ⟨hle, e⟩ := b_true e
      have hle := ble_true hle
      obtain rfl := Option.some.inj e
      have hll := hl.length
      exact ⟨_, key _ (load_agg hT ha (by simp; omega) (range_part hh o' i.size (by omega))), ⟨_, rfl, (hl.drop o').take i.size⟩⟩
theorem resAll_ok (hX : XOK P X) {g : Gh} {s : St} {a : Act} {w : World} (h : Rel E g s a w) : ∀ {rs : List ResultVar} {vs : List (Bool × List CV)}, resAll X s rs = some vs → ∃ us, (rs.mapM (resSem a.tmps)).run P w = .ok us w ∧ All2 (RepP g w) vs us
  | [], vs, e => by obtain rfl := Option.some.inj e; exact ⟨[], rfl, .nil⟩
  | rv :: rs, vs, e => by
    simp only [resAll] at e
    split at e
    case h_2 => cases e
    rename_i p l hp hl
    obtain rfl := Option.some.inj e
    obtain ⟨u, h1, h2⟩ := resOne_ok hX h hp
    obtain ⟨us, h3, h4⟩ := resAll_ok hX h hl
    exact ⟨u :: us, by simp [List.mapM_cons, h1, h3], .cons h2 h4⟩
/-- The marks, numbered anew; the boxes made here stay as they are. -/
def cellsN (w : World) (b : Nat) : Nat := match w.heap[b]? with | some (.cells arr _ _) => arr.size | _ => 0
def renGh (g : Gh) (w : World) (n : Nat) (m : List Nat) : Gh :=
  ⟨fun b => if b < n then g.S b else (match g.who b with | some (.box _) => max (g.S b) (cellsN w b) | _ => g.S b), fun b => if b < n then g.who b else (match g.who b with | some (.tok t) => some (.tok (m.idxOf t)) | _ => none), g.B⟩
theorem renGh_ext (g : Gh) (w : World) (n : Nat) (m : List Nat) : Ext g.S w (renGh g w n m).S w := by
  refine ⟨fun b => ?_, fun _ _ _ _ h => h⟩
  simp only [renGh]
  split
  · exact Nat.le_refl _
  · split
    · exact Nat.le_max_left _ _
    · exact Nat.le_refl _
theorem strip_repX {g g' : Gh} {w : World} (hS : Ext g.S w g'.S w) : ∀ {cells cs : List CV} {l : List Value}, stripAll cells = some cs → All2 (RepK g w) cells l → All2 (RepK g' w) cs l
  | [], cs, l, e, h => by obtain rfl := Option.some.inj e; cases h; exact .nil
  | c :: cells, cs, l, e, h => by
    simp only [stripAll] at e
    split at e
    case h_2 => cases e
    rename_i x q hx hq
    obtain rfl := Option.some.inj e
    cases h with
    | cons h1 h2 =>
      refine .cons ⟨?_, h1.2⟩ (strip_repX hS hq h2)
      cases c with
      | d y => obtain rfl := Option.some.inj hx; exact RepD.mono hS h1.1
      | own t y => obtain rfl := Option.some.inj hx; exact RepD.mono hS h1.1.1
      | _ => cases hx
theorem clos_ok {g : Gh} {s : St} {w : World} (ok : OKW E g w) (hbx : ∀ k b, E.who0 k = some (.box b) → passed ≤ b) (hb : ∀ b cells, s.bx b = some cells → BoxAt g w b cells) (m : List Nat) : ∀ {caps : List (Nat × Nat)} {rows : List (List DV)}, clos s caps = some rows →
    All2 (EpAt (renGh g w E.w0.heap.size m).S w) rows (caps.map fun c => Value.pointer (some ⟨g.B c.1, c.2, none⟩))
  | [], rows, h => by obtain rfl := Option.some.inj h; exact .nil
  | c :: r, rows, h => by
    simp only [clos] at h
    obtain ⟨hc, h⟩ := b_true h
    simp only [Bool.and_eq_true] at hc
    split at h
    case h_2 => cases h
    rename_i cs hcs
    split at h
    case h_2 => cases h
    rename_i row l hrow hl
    obtain rfl := Option.some.inj h
    refine .cons ?_ (clos_ok ok hbx hb m hl)
    obtain ⟨h1, h2, cells, q2, et, hh, hcells⟩ := hb c.1 cs hcs
    obtain ⟨h3, h4⟩ := allD_get hrow
    have ho := beq_true hc.1
    have hp : c.1 < passed := by
      have := hc.2
      rw [blt_iff] at this
      simpa using this
    have hge : ¬ g.B c.1 < E.w0.heap.size := fun hlt => by
      have := (ok.oldS _ hlt).2
      rw [h1] at this
      have := hbx _ _ this.symm
      omega
    refine ⟨g.B c.1, 0, by show Value.pointer (some ⟨g.B c.1, c.2, none⟩) = _; rw [ho], ?_, fun j x hj => ?_⟩
    · simp only [renGh, if_neg hge, h1, cellsN, hh]
      have := hcells.length
      simp only [List.size_toArray, Nat.zero_add, List.length_append]
      have := Nat.le_max_right (g.S (g.B c.1)) (cells.length + q2.length)
      omega
    · obtain ⟨cv, hcv, hdv⟩ := h4 j x hj
      obtain ⟨u, hu, hk⟩ := hcells.get j cv hcv
      refine ⟨u, ?_, RepD.mono (renGh_ext g w _ m) (RepC.dv hk.1 hdv)⟩
      rw [Nat.zero_add, cell_of_row w _ _ _ _ _ hh]
      have hlt := (List.getElem?_eq_some_iff.1 hu).1
      simpa [List.getElem?_append_left hlt] using hu
section
variable {g : Gh} {s : St} {w : World} (ok : OKW E g w) (hno : ∀ b t, E.who0 b ≠ some (.tok t)) (hbx : ∀ k b, E.who0 k = some (.box b) → passed ≤ b) (hb : ∀ b cells, s.bx b = some cells → BoxAt g w b cells)
include ok hno hbx hb
theorem renum_ok {m : List Nat} {k : Bool} {c c' : CV} {v : Value} (h : RepC g w c v) (e : renum m k (closeC s c) = some c') : RepC (renGh g w E.w0.heap.size m) w c' v := by
  have ex := renGh_ext g w E.w0.heap.size m
  cases c with
  | d x => obtain rfl := Option.some.inj e; exact RepD.mono ex h
  | own t x =>
    obtain rfl := Option.some.inj e
    cases k with
    | false => exact RepD.mono ex h.1
    | true =>
      refine ⟨RepD.mono ex h.1, ?_⟩
      rcases h.2 with hw | ⟨b, cap, arr, el, r0, r1, r2, r3, r4, r5⟩
      · exact .inl hw
      · by_cases hb : b < E.w0.heap.size
        · have := (ok.oldS b hb).2
          rw [r1] at this
          exact absurd this.symm (hno b t)
        · exact .inr ⟨b, cap, arr, el, r0, by simp only [renGh, if_neg hb, r1], r2, r3, r4, by simp only [renGh, if_neg hb, r1]; exact r5⟩
  | fn f caps =>
    simp only [closeC] at e
    cases hc : clos s caps with
    | none => rw [hc] at e; cases e
    | some rows =>
      rw [hc] at e
      obtain rfl := Option.some.inj e
      exact ⟨_, h, clos_ok ok hbx hb m hc⟩
  | clo f rows =>
    obtain rfl := Option.some.inj e
    obtain ⟨ps, hv, hp⟩ := h
    exact ⟨ps, hv, hp.mono fun _ _ => EpAt.mono ex⟩
  | _ => cases e
theorem renumAll_ok {m : List Nat} {k : Bool} : ∀ {cs cs' : List CV} {l : List Value}, All2 (RepK g w) cs l → renumAll m k (cs.map (closeC s)) = some cs' → All2 (RepK (renGh g w E.w0.heap.size m) w) cs' l
  | [], cs', l, h, e => by obtain rfl := Option.some.inj e; cases h; exact .nil
  | c :: cs, cs', l, h, e => by
    simp only [List.map_cons, renumAll] at e
    split at e
    case h_2 => cases e
    rename_i x q hx hq
    obtain rfl := Option.some.inj e
    cases h with
    | cons h1 h2 => exact .cons ⟨renum_ok ok hno hbx hb h1.1 hx, h1.2⟩ (renumAll_ok h2 hq)
theorem renumP_ok {m : List Nat} {k : Bool} : ∀ {vs vs' : List (Bool × List CV)} {us : List Value}, All2 (RepP g w) vs us → renumP m k (vs.map fun p => (p.1, p.2.map (closeC s))) = some vs' → All2 (RepP (renGh g w E.w0.heap.size m) w) vs' us
  | [], vs', us, h, e => by obtain rfl := Option.some.inj e; cases h; exact .nil
  | (ag, cs) :: vs, vs', us, h, e => by
    simp only [List.map_cons, renumP] at e
    split at e
    case h_2 => cases e
    rename_i x q hx hq
    obtain rfl := Option.some.inj e
    cases h with
    | cons h1 h2 =>
      refine .cons ?_ (renumP_ok h2 hq)
      cases ag with
      | true =>
        obtain ⟨l, hu, hl⟩ := h1
        exact ⟨l, hu, renumAll_ok ok hno hbx hb hl hx⟩
      | false =>
        obtain ⟨c, rfl, hc⟩ := h1
        simp only [List.map_cons, List.map_nil, renumAll] at hx
        split at hx
        case h_2 => cases hx
        rename_i y z hy hz
        obtain rfl := Option.some.inj hx
        obtain rfl := Option.some.inj hz
        exact ⟨y, rfl, renum_ok ok hno hbx hb hc hy⟩
end
theorem outs_ok {s : St} : ∀ {n i : Nat} {outs : List (List CV)}, outsOf s i n = some outs → outs.length = n ∧ ∀ (k : Nat) (cs : List CV), outs[k]? = some cs → ∃ cells, s.bx (passed + (i + k)) = some cells ∧ stripAll cells = some cs
  | 0, i, outs, e => by obtain rfl := Option.some.inj e; exact ⟨rfl, fun k cs h => by simp at h⟩
  | n + 1, i, outs, e => by
    simp only [outsOf] at e
    split at e
    case h_2 => cases e
    rename_i cells hcells
    split at e
    case h_2 => cases e
    rename_i c l hc hl
    obtain rfl := Option.some.inj e
    obtain ⟨h1, h2⟩ := outs_ok hl
    refine ⟨by simp [h1], fun k cs hk => ?_⟩
    cases k with
    | zero => simp at hk; subst hk; exact ⟨cells, hcells, hc⟩
    | succ k =>
      obtain ⟨q, h3, h4⟩ := h2 k cs (by simpa using hk)
      exact ⟨q, by rw [show i + (k + 1) = i + 1 + k by omega]; exact h3, h4⟩
theorem finish_ok (hX : XOK P X) {fn : Func} {nb : Nat} {r : Res} {g : Gh} {s : St} {a : Act} {w : World} (h : Rel E g s a w) (hno : ∀ b t, E.who0 b ≠ some (.tok t)) (hbx : ∀ k b, E.who0 k = some (.box b) → passed ≤ b) (htop : passed + nb ≤ E.top) (hB : ∀ k, k < nb → E.B0 (passed + k) < E.w0.heap.size) (e : finish X fn nb s = some r) :
    ∃ v, (results fn a.tmps).run P w = .ok v w ∧ ∃ g', OKW ⟨E.w0, E.S0, E.who0, E.B0, 0, [], passed + nb⟩ g' w ∧ RepA g' w r.1 v ∧ (∀ k cells, r.2[k]? = some cells → BoxAt g' w (passed + k) cells) ∧ r.2.length = nb := by
  unfold finish at e
  split at e
  case h_2 => cases e
  rename_i vs hvs
  obtain ⟨us, hus, hrep⟩ := resAll_ok hX h hvs
  simp only at e
  generalize marksOf ((vs.map fun p => (p.1, p.2.map (closeC s))).flatMap (·.2)) = m at e
  generalize hnd : nodupB m = kk at e
  have hres : (results fn a.tmps).run P w = .ok (if h : us.toArray.size = 1 then us.toArray[0] else .tuple us.toArray) w := by
    have : fn.results.mapM (resSem a.tmps) = List.toArray <$> fn.results.toList.mapM (resSem a.tmps) := Array.mapM_eq_mapM_toList ..
    show ((fn.results.mapM (resSem a.tmps)) >>= fun vs => pure (if h : vs.size = 1 then vs[0] else .tuple vs)).run P w = _
    rw [this]
    simp [hus]
  have hok' : OKW ⟨E.w0, E.S0, E.who0, E.B0, 0, [], passed + nb⟩ (renGh g w E.w0.heap.size m) w := by
    have ok := h.ok
    refine ⟨ok.os, ok.out, ok.tape, ok.size, fun b hb => ?_, fun b hb => ?_, ok.old, fun b hb ht => ok.pB b hb (Nat.lt_of_lt_of_le ht htop), ok.ext.trans (renGh_ext g w _ m)⟩
    · have := ok.fresh b hb
      have hnl : ¬ b < E.w0.heap.size := by have := ok.size; omega
      simp only [renGh, if_neg hnl, this.2]
      exact ⟨this.1, trivial⟩
    · have := ok.oldS b hb
      simp only [renGh, if_pos (show b < E.w0.heap.size from hb)]
      exact this
  have hbox : ∀ outs, outsOf s 0 nb = some outs → (∀ k cells, outs[k]? = some cells → BoxAt (renGh g w E.w0.heap.size m) w (passed + k) cells) ∧ outs.length = nb := by
    intro outs ho
    obtain ⟨h1, h2⟩ := outs_ok ho
    refine ⟨fun k cells hk => ?_, h1⟩
    obtain ⟨cs, h3, h4⟩ := h2 k cells hk
    rw [Nat.zero_add] at h3
    obtain ⟨b1, b2, l, q2, et, b3, b4⟩ := h.bx _ cs h3
    have hklt : k < nb := by rw [← h1]; exact (List.getElem?_eq_some_iff.1 hk).1
    have hlt : g.B (passed + k) < E.w0.heap.size := by rw [h.ok.pB _ (Nat.le_add_right _ _) (Nat.lt_of_lt_of_le (Nat.add_lt_add_left hklt _) htop)]; exact hB k hklt
    exact ⟨by simp only [renGh, if_pos hlt]; exact b1, by simp only [renGh, if_pos hlt]; exact b2, l, q2, et, b3, strip_repX (g := g) (g' := renGh g w E.w0.heap.size m) (renGh_ext g w _ m) h4 b4⟩
  split at e
  · rename_i ag cs outs hr ho
    obtain rfl := Option.some.inj e
    have hP := renumP_ok h.ok hno hbx h.bx hrep hr
    cases hP with
    | cons h1 h2 =>
      cases h2
      rename_i u
      refine ⟨u, by rw [hres]; simp, _, hok', ?_, hbox outs ho⟩
      exact RepP_iff.1 h1
  · rename_i vs' outs hne hr ho
    obtain rfl := Option.some.inj e
    have hP := renumP_ok h.ok hno hbx h.bx hrep hr
    have hsz : ¬ us.toArray.size = 1 := by
      intro h1
      have hl := hP.length
      simp at h1
      rw [h1] at hl
      obtain ⟨⟨ag, cs⟩, hq⟩ := List.length_eq_one_iff.1 hl
      exact hne ag cs hq
    refine ⟨.tuple us.toArray, by rw [hres, dif_neg hsz], _, hok', ⟨us, rfl, hP⟩, hbox outs ho⟩
  · cases e
end
end Go.Proofs.Ythmdefgepnkgiaa.Eng
