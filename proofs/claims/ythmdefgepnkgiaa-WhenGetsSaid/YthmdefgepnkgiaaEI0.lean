/- Iterators: how a walk by hand leans on the evaluator. Conditions: the relation between the two states. -/
import Derived.Test.YthmdefgepnkgiaaE16
namespace Go.Proofs.Ythmdefgepnkgiaa.Eng
open Go
/-- All that is told becomes stable: nothing is the call's own any more. -/
def frzC (bx : BX) : CV → CV
  | .own _ x => .d x
  | .fn _ _ => .u
  | .ptr b o none => match bx b with
    | some cs => match allD cs with
      | some row => bif Nat.ble o row.length then .ep (row.drop o) else .u
      | none => .u
    | none => .u
  | .ptr _ _ (some _) => .u
  | c => c
def frz (s : St) : St := ⟨fun t => (s.tm t).map (frzC s.bx), fun _ => none⟩
def frzS (S : Nat → Nat) (g : Gh) (w0 w : World) (b : Nat) : Nat :=
  if b < w0.heap.size then S b else (match g.who b with | some (.box _) => max (g.S b) (cellsN w b) | _ => g.S b)
def bare (S : Nat → Nat) (y : Nat := 0) : Gh := ⟨S, fun _ => none, fun _ => y⟩
def entY (w : World) (S : Nat → Nat) (n : Nat) (df : List Deferred) (y : Nat := 0) : Ent := ⟨w, S, fun _ => none, fun _ => y, n, df, yN + 1⟩
theorem bare_ok {w : World} {S : Nat → Nat} (hS : ∀ b, w.heap.size ≤ b → S b = 0) (n : Nat) (df : List Deferred) (y : Nat := 0) : OKW (entY w S n df y) (bare S y) w :=
  ⟨rfl, rfl, rfl, Nat.le_refl _, fun b hb => ⟨hS b hb, rfl⟩, fun _ _ => ⟨fun _ => rfl, rfl⟩, fun _ _ _ => rfl, fun _ _ _ => rfl, Ext.refl _ _⟩
theorem frz_ok {w0 w : World} {S : Nat → Nat} {n y : Nat} {df : List Deferred} {g : Gh} {s : St} {a : Act} (h : Rel (entY w0 S n df y) g s a w) :
    Rel (entY w (frzS S g w0 w) n df y) (bare (frzS S g w0 w) y) (frz s) a w ∧ Grows S w0 (frzS S g w0 w) w ∧ Ext S w0 (frzS S g w0 w) w := by
  have ok := h.ok
  have hS : ∀ b, w.heap.size ≤ b → frzS S g w0 w b = 0 := fun b hb => by
    have h1 := ok.fresh b hb
    have h2 : ¬ b < w0.heap.size := by have := ok.size; show ¬ b < (entY w0 S n df y).w0.heap.size; omega
    simp only [frzS, if_neg h2, h1.2]; exact h1.1
  have ex : Ext g.S w (frzS S g w0 w) w := by
    refine ⟨fun b => ?_, fun _ _ _ _ h => h⟩
    simp only [frzS]
    split
    · rename_i hb
      rw [(ok.oldS b hb).1 (fun t => by simp [entY])]; exact Nat.le_refl _
    · split
      · exact Nat.le_max_left _ _
      · exact Nat.le_refl _
  have hC : ∀ c v, RepC g w c v → RepC (bare (frzS S g w0 w) y) w (frzC s.bx c) v := by
    intro c v hc
    cases c with
    | d x => exact RepD.mono ex hc
    | own t x => exact RepD.mono ex hc.1
    | fn f caps => trivial
    | ptr b o r =>
      cases r with
      | some r => trivial
      | none =>
      simp only [frzC]
      split
      case h_2 => trivial
      rename_i cs hcs
      split
      case h_2 => trivial
      rename_i row hrow
      cases ho : Nat.ble o row.length
      · trivial
      simp only [cond_true]
      have ho := ble_true ho
      obtain ⟨h1, h2, cells, q2, et, hh, hcells⟩ := h.bx b cs hcs
      obtain ⟨h3, h4⟩ := allD_get hrow
      have hge : ¬ g.B b < w0.heap.size := fun hlt => by
        have := (ok.oldS _ hlt).2
        rw [h1] at this
        cases this
      refine ⟨g.B b, o, hc, ?_, fun j x hj => ?_⟩
      · have hl := hcells.length
        have := Nat.le_max_right (g.S (g.B b)) (cells.length + q2.length)
        show _ ≤ frzS S g w0 w (g.B b)
        simp only [frzS, if_neg hge, h1, cellsN, hh, List.size_toArray, List.length_drop, List.length_append]
        omega
      · rw [List.getElem?_drop] at hj
        obtain ⟨cv, hcv, hdv⟩ := h4 (o + j) x hj
        obtain ⟨u, hu, hk⟩ := hcells.get _ cv hcv
        refine ⟨u, ?_, RepD.mono ex (RepC.dv hk.1 hdv)⟩
        rw [cell_of_row w _ _ _ _ _ hh]
        have hlt := (List.getElem?_eq_some_iff.1 hu).1
        simpa [List.getElem?_append_left hlt] using hu
    | ep row => exact EpAt.mono ex hc
    | clo f caps => obtain ⟨ps, hv, hp⟩ := hc; exact ⟨ps, hv, hp.mono fun _ _ => EpAt.mono ex⟩
    | yl l =>
      have hB : g.B yN = y := ok.pB yN (by decide) (Nat.lt_succ_self _)
      simp only [RepC, hB] at hc
      exact hc
    | u => trivial
    | un => exact hc
  have gr : Grows S w0 (frzS S g w0 w) w := ⟨⟨ok.os, ok.out, ok.tape, ok.size, fun b hb _ => ok.old b hb rfl⟩, fun b hb => by simp only [frzS, if_pos hb], hS⟩
  exact ⟨⟨bare_ok hS n df y, h.df, h.sz, fun t => RepA.lift hC (h.tm t), fun b cells hb => by cases hb⟩, gr, ok.ext.trans ex⟩
/-- Operations one behind the other, up to one of another kind. -/
theorem steps_part {P : Program} {X : Ctx} {E : Ent} (hX : XOK P X) (hn : E.n = X.n) {ro : Option Nat} {n : Nat} {ops : Array Oper} {Q : Exit → Act → World → Prop} {rest : List Oper} {s1 : St} :
    ∀ (l : List Oper) {s : St} {g : Gh} {a : Act} {w : World}, (∀ o ∈ l, notDefer o.op = true) → Rel E g s a w → steps X ops (l.map fun o => (none, o)) s some = some s1 →
      (∀ a' w' g', Rel E g' s1 a' w' → wpListIn (FW ro) n P ops Q rest a' w') → wpListIn (FW ro) n P ops Q (l ++ rest) a w
  | [], s, g, a, w, _, h, e, hk => by
    obtain rfl := Option.some.inj e
    exact hk a w g h
  | o :: l, s, g, a, w, hd, h, e, hk => by
    simp only [List.map_cons, steps] at e
    rw [step1_nat] at e
    obtain ⟨s2, h1, e⟩ := Option.bind_eq_some_iff.1 e
    simp only [List.cons_append, wpListIn]
    rcases step1_ok hX hn h h1 with ⟨hw, hg⟩ | ⟨hw, g', hr⟩
    · rw [if_pos hw]
      refine op_FW (K := wpListIn (FW ro) n P ops Q (l ++ rest)) (hd o (by simp)) (fun _ _ h => h) (hg _ _ fun a' w' g' hr => ?_)
      exact steps_part hX hn l (fun o ho => hd o (by simp [ho])) hr e hk
    · rw [if_neg (by rw [hw]; simp)]
      exact ⟨fun _ _ => trivial, steps_part hX hn l (fun o ho => hd o (by simp [ho])) hr e hk⟩
/-- What is stable stays told, over what another party does. -/
theorem yield_go {w w' : World} {S S' : Nat → Nat} {n y : Nat} {df : List Deferred} {s : St} {a : Act} (h : Rel (entY w S n df y) (bare S y) s a w) (ex : Ext S w S' w') (hS : ∀ b, w'.heap.size ≤ b → S' b = 0) :
    Rel (entY w' S' n df y) (bare S' y) (frz ⟨s.tm, fun _ => none⟩) a w' := by
  refine ⟨bare_ok hS n df y, h.df, h.sz, fun t => RepA.lift (fun c v hc => ?_) (h.tm t), fun b cells hb => by cases hb⟩
  cases c with
  | d x => exact RepD.mono ex hc
  | own t x => exact RepD.mono ex hc.1
  | fn f caps => trivial
  | ptr b o r => cases r <;> trivial
  | ep row => exact EpAt.mono ex hc
  | clo f caps => obtain ⟨ps, hv, hp⟩ := hc; exact ⟨ps, hv, hp.mono fun _ _ => EpAt.mono ex⟩
  | yl l => exact hc
  | u => trivial
  | un => exact hc
theorem rel_any {w : World} {n : Nat} {y : Nat} {a : Act} (hd : a.defers = []) (hs : a.tmps.size = n) : Rel (entY w (fun _ => 0) n [] y) (bare (fun _ => 0) y) ⟨fun _ => .one false [.u], fun _ => none⟩ a w :=
  ⟨bare_ok (fun _ _ => rfl) n [] y, hd, hs, fun _ => ⟨_, rfl, trivial⟩, fun _ _ h => by cases h⟩
theorem list_one {F : Fence} {n : Nat} {P : Program} {ops : Array Oper} {Q : Exit → Act → World → Prop} {o : Oper} {rest : List Oper} {a : Act} {w : World} (hw : Region.wanted o (yielded ops a.tmps) = true) (h : o.wpIn F n P a w (wpListIn F n P ops Q rest) Q) : wpListIn F n P ops Q (o :: rest) a w := by
  simp only [wpListIn]
  rw [if_pos hw]
  exact h
theorem grow_of {w0 w : World} {S0 : Nat → Nat} {n y : Nat} {df : List Deferred} {g : Gh} (ok : OKW (entY w0 S0 n df y) g w) (S : Nat → Nat) : Grows S w0 (fun b => if b < w0.heap.size then S b else 0) w :=
  ⟨⟨ok.os, ok.out, ok.tape, ok.size, fun b hb _ => ok.old b hb rfl⟩, fun b hb => if_pos hb, fun b hb => if_neg (by have : w0.heap.size ≤ w.heap.size := ok.size; omega)⟩
theorem results_one {P : Program} {fn : Func} {t : Nat} {tmps : Array Value} {w : World} (h : fn.results = #[.tmp t]) : (results fn tmps).run P w = .ok (tmps.getD t undef) w := by
  unfold results
  rw [h]
  simp [Array.mapM_eq_mapM_toList]
/-- Less may be told. -/
theorem rel_weak {E : Ent} {g : Gh} {s s' : St} {a : Act} {w : World} (h : Rel E g s a w) (ht : ∀ t, s'.tm t = s.tm t ∨ s'.tm t = .one false [.u]) (hb : ∀ b cells, s'.bx b = some cells → s.bx b = some cells) : Rel E g s' a w :=
  ⟨h.ok, h.df, h.sz, fun t => by
    rcases ht t with e | e
    · rw [e]; exact h.tm t
    · rw [e]; exact ⟨_, rfl, trivial⟩, fun b cells hh => h.bx b cells (hb b cells hh)⟩
theorem start_rel {w : World} {S : Nat → Nat} (hS : ∀ b, w.heap.size ≤ b → S b = 0) {avs : List AV} {vals : List Value} {n : Nat} {y : Nat} (h : All2 (RepA (bare S y) w) avs vals) (hn : vals.length ≤ n) :
    Rel (entY w S n [] y) (bare S y) ⟨startT 0 avs, startB 0 []⟩ { tmps := vals.toArray ++ Array.replicate (n - vals.toArray.size) undef, defers := [] } w := by
  refine ⟨bare_ok hS n [] y, rfl, by simp [entY]; omega, fun t => ?_, fun b cells hb => by simp [startB] at hb⟩
  show RepA (bare S y) w (startT 0 avs t) ((vals.toArray ++ Array.replicate (n - vals.toArray.size) undef).getD t undef)
  rw [startT_get, if_pos (Nat.zero_le _), Nat.sub_zero]
  cases ht : avs[t]? with
  | none => exact ⟨_, rfl, trivial⟩
  | some v =>
    obtain ⟨u, hu, hr⟩ := h.get t v ht
    have hlt : t < vals.length := (List.getElem?_eq_some_iff.1 hu).1
    rw [Array.getD_eq_getD_getElem?, Array.getElem?_append_left (by simpa using hlt)]
    simp only [List.getElem?_toArray, hu]
    exact hr
/-- What an iterator is handed. -/
structure YP (P : Program) (l : Nat) (xs : List (List (Bool × List DV))) (J Jx : Nat → (Nat → Nat) → World → Prop) : Prop where
  gJ : ∀ i S A S' B, J i S A → Grows S A S' B → J i S' B
  gX : ∀ i S A S' B, Jx i S A → Grows S A S' B → Jx i S' B
  y : ∀ m i S x vals W, xs[i]? = some x → J i S W → All2 (RepX S W) x vals → YieldAt (FW none) m P l vals.toArray W fun e W' =>
      W.heap.size ≤ W'.heap.size ∧ ((e = .returned (.bool true) ∧ J (i + 1) S W' ∧ Ext S W S W') ∨ (e = .returned (.bool false) ∧ Jx i S W'))
/-- How a part of an iterator ends: all of its own have come, or it was stopped. -/
def PostY (J Jx : Nat → (Nat → Nat) → World → Prop) (S : Nat → Nat) (w : World) (i : Nat) (e : Ending) (w' : World) : Prop :=
  (e = .returned (.bool true) ∧ ∃ S', J i S' w' ∧ Ext S w S' w' ∧ ∀ b, w'.heap.size ≤ b → S' b = 0) ∨ (e = .returned (.bool false) ∧ ∃ i' S', Jx i' S' w')
def XY (P : Program) (n : Nat) : Ctx := ⟨tyOf P, fun _ _ _ => CallK.of none, n, fun _ _ => none, fun _ => false, fun _ => [], fun _ _ _ => true⟩
theorem XY_ok (P : Program) (n : Nat) : XOK P (XY P n) := ⟨fun _ _ h => tyOf_ok h, fun _ _ _ _ _ h => by cases h⟩
/-- A call of yield. -/
theorem yield_op {P : Program} {n : Nat} {o : Oper} {c : Call} {fo : Operand} {l : Nat} {vals : List Value} {a : Act} {w : World} {K : Act → World → Prop} {Q : Exit → Act → World → Prop} {R : Ending → World → Prop}
    (ho : o.op = .call c) (hc : c.callee = .value fo) (hf : a.eval fo = .func (.yield l) #[] #[]) (hv : c.args.map a.eval = vals.toArray) (hy : YieldAt (FW none) (n - 1) P l vals.toArray w R)
    (hR : ∀ e w', R e w' → ∃ v, e = .returned v ∧ K (a.put o.dst v) w') : o.wpIn (FW none) n P a w K Q := by
  obtain ⟨fn, tmps, assign, body, hrun, hround⟩ := hy
  refine ⟨fun _ _ => trivial, ?_⟩
  rw [Oper.semAt_eq _ _ _ (by intro c hc; rw [ho] at hc; cases hc)]
  have : (execOp a.eval o).run P w = .ok (.round l fn tmps assign body) w := by
    simp only [execOp, ho, resolve, hc, hf, hv, Deferred.ofValue, Sem.run_bind, Sem.run_pure, Result.andThen_ok, invoke]
    simpa using hrun
  rw [this]
  simp only [Oper.uponIn]
  refine ⟨(fun hh => by cases hh), hround.mono fun e w' he => ?_⟩
  obtain ⟨v, rfl, hk⟩ := hR e w' he
  exact hk
/-- A call of a function, its contract at hand. -/
theorem fcall_op {P : Program} {n : Nat} {o : Oper} {c : Call} {fo : Operand} {f : FuncId} {cv vals : List Value} {a : Act} {w : World} {K : Act → World → Prop} {Q : Exit → Act → World → Prop} {R : Ending → World → Prop}
    (ho : o.op = .call c) (hc : c.callee = .value fo) (hf : a.eval fo = .func (.func f) #[] cv.toArray) (hv : c.args.map a.eval = vals.toArray) (hfn : ∃ fn, P.funcs[f]? = some fn ∧ (fn.name == "runtime.NumGoroutine") = false ∧ fn.body.isNone = false)
    (hcall : CallsIn (FW none) (n - 1) P f (vals ++ cv).toArray w R)
    (hR : ∀ e w', R e w' → ∃ v, e = .returned v ∧ K (a.put o.dst v) w') : o.wpIn (FW none) n P a w K Q := by
  obtain ⟨fn, hfn, hname, hbody⟩ := hfn
  refine ⟨fun _ _ => trivial, ?_⟩
  rw [Oper.semAt_eq _ _ _ (by intro c hc; rw [ho] at hc; cases hc)]
  have : (execOp a.eval o).run P w = .ok (.enter f (vals ++ cv).toArray) w := by
    have harr : vals.toArray ++ cv.toArray = (vals ++ cv).toArray := by simp
    simp only [execOp, ho, resolve, hc, hf, hv, Deferred.ofValue, Sem.run_bind, Sem.run_pure, Result.andThen_ok, invoke, callFunc, run_program, hfn, Array.empty_append, harr]
    rw [hname, hbody]
    simp
  rw [this]
  simp only [Oper.uponIn]
  refine ⟨(fun hh => by cases hh), hcall.mono fun e w' he => ?_⟩
  obtain ⟨v, rfl, hk⟩ := hR e w' he
  exact hk
end Go.Proofs.Ythmdefgepnkgiaa.Eng
