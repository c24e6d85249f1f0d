/- WHAT THE EVALUATOR TELLS OF A FUNCTION IS WHAT A CALL OF IT COMES TO. Conditions: the tables are the program's; what is taken from elsewhere keeps its promise. -/
import Derived.Test.YthmdefgepnkgiaaE14p
import Derived.LoopNIn
import Derived.RangeFuncLeaves
namespace Go.Proofs.Ythmdefgepnkgiaa.Eng
open Go
section
variable {P : Program} {X : Ctx} {E : Ent} {ops : Array Oper} {o : Oper}
theorem forceC_eq {R : Type} (c : CV) (K : CV → Option R) : forceC c K = K c := by cases c <;> rfl
theorem forceCs_eq {R : Type} : ∀ (cs : List CV) (K : List CV → Option R), forceCs cs K = K cs
  | [], _ => rfl
  | c :: r, K => by
    simp only [forceCs]
    rw [forceC_eq, forceCs_eq r]
theorem forceA_eq {R : Type} (v : AV) (K : AV → Option R) : forceA v K = K v := by
  cases v with
  | one a cs => exact forceCs_eq cs _
  | tup vs => rfl
theorem keepT_ok {R : Type} (s : St) : ∀ (ts : List Nat) (f : TM) (K : TM → Option R) (r : R), keepT s ts f K = some r → ∃ f', K f' = some r ∧ ∀ t, f' t = s.tm t ∨ f' t = f t
  | [], f, K, r, h => ⟨f, h, fun t => .inr rfl⟩
  | t :: ts, f, K, r, h => by
    simp only [keepT] at h
    rw [forceA_eq] at h
    obtain ⟨f', h1, h2⟩ := keepT_ok s ts _ K r h
    refine ⟨f', h1, fun u => ?_⟩
    rcases h2 u with h3 | h3
    · exact .inl h3
    · by_cases e : u = t
      · subst e; rw [upd_same] at h3; exact .inl h3
      · rw [upd_ne _ _ e] at h3; exact .inr h3
theorem keepB_ok {R : Type} (s : St) : ∀ (bs : List Nat) (f : BX) (K : BX → Option R) (r : R), keepB s bs f K = some r → ∃ f', K f' = some r ∧ ∀ t, f' t = s.bx t ∨ f' t = f t
  | [], f, K, r, h => ⟨f, h, fun t => .inr rfl⟩
  | t :: ts, f, K, r, h => by
    simp only [keepB] at h
    split at h
    · rename_i cs hcs
      rw [forceCs_eq] at h
      obtain ⟨f', h1, h2⟩ := keepB_ok s ts _ K r h
      refine ⟨f', h1, fun u => ?_⟩
      rcases h2 u with h3 | h3
      · exact .inl h3
      · by_cases e : u = t
        · subst e; rw [upd_same, ← hcs] at h3; exact .inl h3
        · rw [upd_ne _ _ e] at h3; exact .inr h3
    · exact keepB_ok s ts f K r h
theorem keep_ok {R : Type} {h : Option (List Nat × List Nat)} {s : St} {K : St → Option R} {r : R} (e : keep h s K = some r) : ∃ s', K s' = some r ∧ ∀ E g a w, Rel E g s a w → Rel E g s' a w := by
  unfold keep at e
  split at e
  · exact ⟨s, e, fun _ _ _ _ h => h⟩
  · obtain ⟨tm, h1, h2⟩ := keepT_ok s _ _ _ _ e
    obtain ⟨bx, h3, h4⟩ := keepB_ok s _ _ _ _ h1
    refine ⟨⟨tm, bx⟩, h3, fun E g a w hr => ⟨hr.ok, hr.df, hr.sz, fun t => ?_, fun b cells hb => ?_⟩⟩
    · rcases h2 t with h | h
      · simp only; rw [h]; exact hr.tm t
      · simp only; rw [h]; exact ⟨_, rfl, trivial⟩
    · rcases h4 b with h | h
      · simp only at hb; rw [h] at hb; exact hr.bx b cells hb
      · simp only at hb; rw [h] at hb; cases hb
def axTo : AX → Exit
  | .norm => .normal
  | .exit id => .exit id
  | .ret => .ret
structure Top (E0 : Ent) : Prop where
  top : E0.top ≤ 2 * passed
  who : ∀ b o, E0.who0 b = some o → ∃ d, o = .box d ∧ passed ≤ d ∧ d < 2 * passed
  s0 : ∀ b, E0.w0.heap.size ≤ b → E0.S0 b = 0
structure Inv (X : Ctx) (E0 E : Ent) : Prop where
  n : E.n = X.n
  top : E.top ≤ 3 * passed
  sub : ∀ g w, OKW E g w → OKW E0 g w
  marks : ∀ d ∈ E.df, ∃ D, d = { target := .collected D, args := #[] } ∧ E0.w0.heap.size ≤ D ∧ D < E.w0.heap.size ∧ E.who0 D = none ∧ E.w0.heap[D]? = some (.deferred (some []))
  nod : E.df.Nodup
theorem Inv.refl {E : Ent} (hn : E.n = X.n) (ht : E.top ≤ 3 * passed) (hd : E.df = []) : Inv X E E :=
  ⟨hn, ht, fun _ _ h => h, (fun d h => by rw [hd] at h; cases h), (by rw [hd]; exact List.nodup_nil)⟩
theorem OKW.ren {E0 : Ent} {g : Gh} {w : World} (hT : Top E0) (h : OKW E0 g w) : OKW E0 (renG g) w := by
  refine ⟨h.os, h.out, h.tape, h.size, fun b hb => ⟨(h.fresh b hb).1, ?_⟩, fun b hb => ⟨(h.oldS b hb).1, ?_⟩, h.old, fun b hb ht => ?_, h.ext⟩
  · show renO (g.who b) = none
    rw [(h.fresh b hb).2]; rfl
  · show renO (g.who b) = _
    rw [(h.oldS b hb).2]
    cases ho : E0.who0 b with
    | none => rfl
    | some o =>
      obtain ⟨d, rfl, h1, h2⟩ := hT.who b o ho
      simp only [renO]
      rw [if_neg (by omega), if_pos h2]
  · show renGB g.B b = _
    unfold renGB
    rw [if_neg (by have := hT.top; omega)]
    exact h.pB b hb ht
/-- Code keeps its promise. -/
def CodeOK (P : Program) (X : Ctx) (fuel : Nat) (hint : Nat → Option (List Nat × List Nat)) {R : Type} (r : R) (c : Code) : Prop :=
  ∀ {ro : Option Nat} {n : Nat} {E0 E : Ent} {s : St} {K : AX → St → Option R} {g : Gh} {a : Act} {w : World} {Q : Exit → Act → World → Prop},
    ((ro = none ∧ Top E0) ∨ plainC c = true) → ((∀ id, X.prep id = []) ∨ (plainC c = true ∧ E = E0 ∧ Top E0)) → Inv X E0 E → code X fuel hint c s K = some r → Rel E g s a w →
    (∀ ax s' a' w' g' E', K ax s' = some r → Rel E' g' s' a' w' → Inv X E0 E' → (plainC c = true → E' = E) → Q (axTo ax) a' w') → c.wpIn (FW ro) n P Q a w
/-- Between two rounds. -/
structure JR (E : Ent) (l D : Nat) (rec : Loop) (tm : TM) (tmps : Array Value) (g : Gh) (bx : BX) (w : World) : Prop where
  ok : OKW E g w
  tm : ∀ t, RepA g w (renTm tm t) (tmps.getD t undef)
  bx : ∀ b cells, bx b = some cells → BoxAt g w b cells
  wl : g.who l = none
  wD : g.who D = none
  hl : w.heap[l]? = some (.loop rec)
  hD : w.heap[D]? = some (.deferred (some []))
theorem JR.mild {l D B : Nat} {rec rec' : Loop} {tm : TM} {tmps : Array Value} {g : Gh} {bx : BX} {w w' : World} (h : JR E l D rec tm tmps g bx w) (m : Mild w w' B) (hB : E.w0.heap.size ≤ B)
    (hl : w'.heap[l]? = some (.loop rec')) (hD : w'.heap[D]? = some (.deferred (some []))) : JR E l D rec' tm tmps g bx w' :=
  ⟨m.ok hB h.ok, fun t => RepA.keep m.c (h.tm t), fun b cells hb => m.box (h.bx b cells hb), h.wl, h.wD, hl, hD⟩
theorem part_ok {fuel : Nat} {hint : Nat → Option (List Nat × List Nat)} {R : Type} {r : R} {c : Code} (IH : CodeOK P X fuel hint r c) (hno : ∀ id, X.prep id = []) (hpl : plainC c = true) {l D n : Nat} {rec : Loop} {tm : TM} {tmps : Array Value} {g : Gh} {w : World} {s : St} {a : Act}
    (hJ : JR E l D rec tm tmps g s.bx w) (hEt : E.top = 3 * passed) (hdf : a.defers = []) (hsz : a.tmps.size = X.n) (htm : ∀ t, RepA g w (s.tm t) (a.tmps.getD t undef)) {K : AX → St → Option R} (e : code X fuel hint c s K = some r) {Q : Exit → Act → World → Prop}
    (hQ : ∀ ax s' a' w' g', K ax s' = some r → JR E l D rec tm tmps g' s'.bx w' → w.heap.size ≤ w'.heap.size → a'.defers = [] → a'.tmps.size = X.n → (∀ t, RepA g' w' (s'.tm t) (a'.tmps.getD t undef)) → Ext g.S w g'.S w' → Q (axTo ax) a' w') : c.wpIn (FW (some l)) n P Q a w := by
  let Eb : Ent := ⟨w, g.S, g.who, g.B, X.n, [], 3 * passed⟩
  have hl : l < w.heap.size := (Array.getElem?_eq_some_iff.1 hJ.hl).1
  have hD : D < w.heap.size := (Array.getElem?_eq_some_iff.1 hJ.hD).1
  refine IH (E0 := Eb) (E := Eb) (.inr hpl) (.inl hno) (Inv.refl rfl (Nat.le_refl _) rfl) e ⟨hJ.ok.self _ _ _, hdf, hsz, htm, hJ.bx⟩ fun ax s' a' w' g' E' hk hr _ hE => ?_
  obtain rfl := hE hpl
  refine hQ ax s' a' w' g' hk ⟨hJ.ok.trans (Nat.le_of_eq hEt) hr.ok, fun t => ren_staysA hr.ok.ext (fun b h1 h2 => hr.ok.pB b h1 h2) (hJ.tm t), hr.bx, ?_, ?_, ?_, ?_⟩ hr.ok.size hr.df hr.sz hr.tm hr.ok.ext
  · exact ((hr.ok.oldS l hl).2).trans hJ.wl
  · exact ((hr.ok.oldS D hD).2).trans hJ.wD
  · exact (hr.ok.old l hl hJ.wl).trans hJ.hl
  · exact (hr.ok.old D hD hJ.wD).trans hJ.hD
def putV (t : Array Value) (p : Nat × Value) : Array Value := t.setIfInBounds p.1 p.2
theorem putPs_ok {g : Gh} {w : World} {n : Nat} : ∀ (ps : List Nat) (x : List AV) (vals : List Value) (tm : TM) (tmps : Array Value), tmps.size = n → (∀ p ∈ ps, p < n) → All2 (RepA g w) x vals → x.length = ps.length → (∀ t, RepA g w (tm t) (tmps.getD t undef)) →
    ((ps.zip vals).foldl putV tmps).size = n ∧ ∀ t, RepA g w (putPs tm ps x t) (((ps.zip vals).foldl putV tmps).getD t undef)
  | [], x, vals, tm, tmps, hn, _, _, _, h => by
    refine ⟨by simpa using hn, fun t => ?_⟩
    cases x <;> exact h t
  | p :: ps, x, vals, tm, tmps, hn, hp, ha, hl, h => by
    cases ha with
    | nil => cases hl
    | cons h1 h2 =>
      rename_i y v x vals
      have hpn : p < tmps.size := by rw [hn]; exact hp p (by simp)
      refine putPs_ok ps x vals (upd tm p y) (putV tmps (p, v)) (by simpa [putV] using hn) (fun q hq => hp q (by simp [hq])) h2 (by simpa using hl) fun t => ?_
      simp only [putV, Array.getD_eq_getD_getElem?, Array.getElem?_setIfInBounds]
      by_cases e : t = p
      · subst e
        rw [upd_same]
        simpa [hpn] using h1
      · rw [upd_ne _ _ e]
        have := h t
        simpa [Ne.symm e, Array.getD_eq_getD_getElem?] using this
theorem Ext.shrink {S0 S S' : Nat → Nat} {w w' : World} (hle : ∀ b, S0 b ≤ S b) (k : Ext S w S' w') : Ext S0 w S0 w' :=
  ⟨fun _ => Nat.le_refl _, fun b o v ho hv => k.cell b o v (Nat.lt_of_lt_of_le ho (hle b)) hv⟩
def jumpOf : AX → Option Code
  | .norm => none
  | .exit id => some (.exit id)
  | .ret => some .ret
def recOf (fn : FuncId) (tmps : Array Value) (ps : Array Tmp) (assign body : Code) (D : Nat) (st : LoopState) (pe : Option Code) : Loop :=
  { state := st, pending := pe, fn, tmps, params := ps, assign, body, defers := D }
/-- The rounds, at any number of them that have been. -/
def JAt (P : Program) (X : Ctx) {R : Type} (r : R) (F G : St → (AX → St → Option R) → Option R) (K : AX → St → Option R) (ps : List Nat) (xs : List (List (Bool × List DV))) (E : Ent) (l D : Nat) (rec : LoopState → Option Code → Loop) (tm : TM) (tmps : Array Value) (i : Nat) (S : Nat → Nat) (W : World) : Prop :=
  ∃ g bx, JR E l D (rec .ready none) tm tmps g bx W ∧ (∀ b, S b ≤ g.S b) ∧ roundsF F G ps (renTm tm) (xs.drop i) bx K = some r
def JxAt {R : Type} (r : R) (K : AX → St → Option R) (E : Ent) (l D : Nat) (rec : LoopState → Option Code → Loop) (tm : TM) (tmps : Array Value) (W : World) : Prop :=
  ∃ g bx ax c, jumpOf ax = some c ∧ JR E l D (rec .done (some c)) tm tmps g bx W ∧ K ax ⟨renTm tm, bx⟩ = some r
theorem jr_more {l D : Nat} {rec : Loop} {tm : TM} {tmps : Array Value} {g : Gh} {bx : BX} {S S' : Nat → Nat} {A B : World} (h : JR E l D rec tm tmps g bx A) (hS : ∀ b, S b ≤ g.S b) (m : Grows S A S' B) : JR E l D rec tm tmps (g.more A S') bx B ∧ ∀ b, S' b ≤ (g.more A S').S b := by
  obtain ⟨m, m1, m2⟩ := m
  have hl := (Array.getElem?_eq_some_iff.1 h.hl).1
  have hD := (Array.getElem?_eq_some_iff.1 h.hD).1
  refine ⟨⟨more_ok h.ok m m2, fun t => RepA.keep (more_c h.ok m) (h.tm t), fun b cells hb => more_box h.ok m (h.bx b cells hb), h.wl, h.wD, (m.keep l hl (.inl hl)).trans h.hl, (m.keep D hD (.inl hD)).trans h.hD⟩, fun b => ?_⟩
  simp only [Gh.more]
  split
  · rename_i hb; rw [m1 b hb]; exact hS b
  · exact Nat.le_refl _
theorem jr_same {l D : Nat} {rec : Loop} {tm : TM} {tmps : Array Value} {g : Gh} {bx : BX} {A B : World} (h : JR E l D rec tm tmps g bx A) (m : Mild A B A.heap.size) : JR E l D rec tm tmps g bx B :=
  have hl := (Array.getElem?_eq_some_iff.1 h.hl).1
  have hD := (Array.getElem?_eq_some_iff.1 h.hD).1
  h.mild m h.ok.size ((m.keep l hl (.inl hl)).trans h.hl) ((m.keep D hD (.inl hD)).trans h.hD)
theorem jr_put {l D : Nat} {rec rec' : Loop} {tm : TM} {tmps : Array Value} {g : Gh} {bx : BX} {A : World} (h : JR E l D rec tm tmps g bx A) (hEl : E.w0.heap.size ≤ l) (hDl : D ≠ l) :
    JR E l D rec' tm tmps g bx (A.putObj l (.loop rec')) ∧ Mild A (A.putObj l (.loop rec')) l :=
  have hl := (Array.getElem?_eq_some_iff.1 h.hl).1
  have m : Mild A (A.putObj l (.loop rec')) l := Mild.put h.hl (by intro _ _ _ hh; cases hh)
  ⟨h.mild m hEl (World.putObj_heap_same hl) ((World.putObj_heap_other hDl).trans h.hD), m⟩
theorem round_ok {fuel : Nat} {hint : Nat → Option (List Nat × List Nat)} {R : Type} {r : R} {cA cB : Code} (IA : CodeOK P X fuel hint r cA) (IB : CodeOK P X fuel hint r cB) (hno : ∀ id, X.prep id = []) (hpA : plainC cA = true) (hpB : plainC cB = true)
    {K : AX → St → Option R} {ps : Array Tmp} (hps : ∀ p ∈ ps.toList, p < X.n) {xs : List (List (Bool × List DV))} (hEt : E.top = 3 * passed) {l D : Nat} {tm : TM} {tmps : Array Value} (hsz : tmps.size = X.n) (hEl : E.w0.heap.size ≤ l) (hDl : D ≠ l) {fn : FuncId}
    (m i : Nat) (S : Nat → Nat) (x : List (Bool × List DV)) (vals : List Value) (W : World) (hx : xs[i]? = some x) (hJ : JAt P X r (code X fuel hint cA) (code X fuel hint cB) K ps.toList xs E l D (recOf fn tmps ps cA cB D) tm tmps i S W) (hv : All2 (RepX S W) x vals) :
    YieldAt (FW none) m P l vals.toArray W fun e W' => W.heap.size ≤ W'.heap.size ∧
      ((e = .returned (.bool true) ∧ JAt P X r (code X fuel hint cA) (code X fuel hint cB) K ps.toList xs E l D (recOf fn tmps ps cA cB D) tm tmps (i + 1) S W' ∧ Ext S W S W') ∨
      (e = .returned (.bool false) ∧ JxAt r K E l D (recOf fn tmps ps cA cB D) tm tmps W')) := by
  obtain ⟨g, bx, hj, hS, e⟩ := hJ
  have hi : i < xs.length := (List.getElem?_eq_some_iff.1 hx).1
  have hdrop : xs.drop i = x :: xs.drop (i + 1) := by
    rw [List.drop_eq_getElem_cons hi]
    congr 1
    exact (List.getElem?_eq_some_iff.1 hx).2
  rw [hdrop] at e
  simp only [roundsF] at e
  obtain ⟨hlen, e⟩ := b_true e
  have hlen := beq_true hlen
  have hvl := hv.length
  have hv' : All2 (RepA g W) (x.map AV.ofD) vals := All2.map_left _ (fun p u h => RepX.rep h) (hv.mono fun p u h => RepX.mono ⟨hS, fun _ _ _ _ h => h⟩ h)
  obtain ⟨hs1, ht1⟩ := putPs_ok ps.toList (x.map AV.ofD) vals (renTm tm) tmps hsz hps hv' (by simpa using hlen) hj.tm
  have hy := run_yield (P := P) (args := vals.toArray) hj.hl (by show vals.length = ps.size; rw [← hvl, hlen]; simp)
  have hfold : (ps.zip vals.toArray).foldl (fun tmps (t, a) => tmps.setIfInBounds t a) tmps = (ps.toList.zip vals).foldl putV tmps := by
    rw [← Array.foldl_toList, Array.toList_zip]
    rfl
  refine ⟨fn, _, cA, cB, hy, ?_⟩
  show RoundIn (FW none) m P l fn ((ps.zip vals.toArray).foldl (fun tmps (t, a) => tmps.setIfInBounds t a) tmps) cA cB W _
  rw [hfold]
  refine roundIn_of_wpIn trivial ?_
  refine part_ok IA hno hpA (s := ⟨putPs (renTm tm) ps.toList (x.map AV.ofD), bx⟩) hj hEt rfl hs1 ht1 e fun ax s1 a1 w1 g1 hk hj1 hz1 hdf1 hsz1 ht1' hx1 => ?_
  cases ax with
  | exit id => cases hk
  | ret => cases hk
  | norm =>
  obtain ⟨hj2, m2⟩ := jr_put (rec' := recOf fn tmps ps cA cB D .busy none) hj1 hEl hDl
  refine ⟨_, run_beginRound hj1.hl rfl, ?_⟩
  show cB.wpIn (FW (some l)) m P _ a1 (w1.putObj l (.loop (recOf fn tmps ps cA cB D .busy none)))
  refine part_ok IB hno hpB hj2 hEt hdf1 hsz1 (fun t => RepA.keep m2.c (ht1' t)) hk fun ax s3 a3 w3 g3 hk3 hj3 hz3 _ _ _ hx3 => ?_
  have hsz3 : W.heap.size ≤ w3.heap.size := Nat.le_trans hz1 (Nat.le_trans m2.size hz3)
  have hext : Ext g.S W g3.S w3 := hx1.trans ((m2.ext g1.S).trans hx3)
  cases ax with
  | norm =>
    obtain ⟨hj4, m4⟩ := jr_put (rec' := recOf fn tmps ps cA cB D .ready none) hj3 hEl hDl
    exact ⟨_, _, run_endRound none hj3.hl, Nat.le_trans hsz3 m4.size, .inl ⟨rfl, ⟨g3, s3.bx, hj4, fun b => Nat.le_trans (hS b) (hext.le b), hk3⟩, Ext.shrink hS (hext.trans (m4.ext g3.S))⟩⟩
  | ret =>
    obtain ⟨hj4, m4⟩ := jr_put (rec' := recOf fn tmps ps cA cB D .done (some .ret)) hj3 hEl hDl
    exact ⟨_, _, run_endRound (some .ret) hj3.hl, Nat.le_trans hsz3 m4.size, .inr ⟨rfl, g3, s3.bx, .ret, .ret, rfl, hj4, hk3⟩⟩
  | exit id =>
    obtain ⟨hj4, m4⟩ := jr_put (rec' := recOf fn tmps ps cA cB D .done (some (.exit id))) hj3 hEl hDl
    exact ⟨_, _, run_endRound (some (.exit id)) hj3.hl, Nat.le_trans hsz3 m4.size, .inr ⟨rfl, g3, s3.bx, .exit id, .exit id, rfl, hj4, hk3⟩⟩
def XI (P : Program) (X : Ctx) : Prop := ∀ f rows xs, X.iter f rows = some xs → IterOK P f rows xs
theorem range_ok {fuel : Nat} {hint : Nat → Option (List Nat × List Nat)} {R : Type} {r : R} {cA cB : Code} (hI : XI P X) (IA : CodeOK P X fuel hint r cA) (IB : CodeOK P X fuel hint r cB) {ps : Array Tmp} {x : Operand} : CodeOK P X fuel hint r (.rangeFunc x ps cA cB) := by
  intro ro n E0 E s K g0 a w Q hR hP hInv e h hQ
  have hno : ∀ id, X.prep id = [] := hP.resolve_right (by simp [plainC])
  obtain ⟨rfl, hT⟩ : ro = none ∧ Top E0 := hR.resolve_right (by simp [plainC])
  simp only [code] at e
  obtain ⟨hb, e⟩ := b_true e
  simp only [Bool.and_eq_true] at hb
  split at e
  case h_2 => cases e
  rename_i f caps hev
  split at e
  case h_2 => cases e
  rename_i xs hxs
  have hps : ∀ p ∈ ps.toList, p < X.n := fun p hp => by
    have := List.all_eq_true.1 hb.2 p hp
    rw [blt_iff] at this
    simpa using this
  obtain ⟨⟨fn, hfn, hname, hbody⟩, hit⟩ := hI f caps xs hxs
  obtain ⟨cv, hval, hcv⟩ := evC_ok h hev
  -- the world of the rounds
  let g := renG g0
  let EJ : Ent := ⟨w, g.S, g.who, g.B, X.n, [], 3 * passed⟩
  have hok1 : OKW E0 g w := (hInv.sub g0 w h.ok).ren hT
  let D := w.heap.size
  let l := w.heap.size + 1
  have hEl : EJ.w0.heap.size ≤ l := Nat.le_succ _
  have hDl : D ≠ l := by show w.heap.size ≠ w.heap.size + 1; omega
  have hE0D : E0.w0.heap.size ≤ D := hok1.size
  refine wpIn_rangeFunc fun fn0 _ => ?_
  let rec0 := recOf fn0 a.tmps ps cA cB D
  let W1 := (w.alloc (.deferred (some []))).alloc (.loop (rec0 .ready none))
  have hl1 : W1.heap[l]? = some (.loop (rec0 .ready none)) := by
    have := World.alloc_heap_new (w.alloc (.deferred (some []))) (.loop (rec0 .ready none))
    rwa [World.size_alloc] at this
  have m1 : Mild w W1 w.heap.size := (Mild.alloc w _ _).trans (Mild.alloc _ _ _)
  have hD1 : W1.heap[D]? = some (.deferred (some [])) := by
    have hlt : D < (w.alloc (.deferred (some []))).heap.size := by rw [World.size_alloc]; exact Nat.lt_succ_self _
    have := (Mild.alloc (w.alloc (.deferred (some []))) (.loop (rec0 .ready none)) (D + 1)).keep D hlt (.inl (Nat.lt_succ_self _))
    exact this.trans (World.alloc_heap_new w _)
  have hJ : JR EJ l D (rec0 .ready none) s.tm a.tmps g (renBx s.bx) W1 := by
    refine ⟨m1.ok (Nat.le_refl _) (hok1.self _ _ _), fun t => RepA.keep m1.c (RepA.lift (ren_c false) (h.tm t)), fun b cells hb => m1.box (ren_box h.bx hb), (hok1.fresh l (Nat.le_succ _)).2, (hok1.fresh D (Nat.le_refl _)).2, hl1, hD1⟩
  have heg : ∀ args w, (callFunc f args).run P w = .ok (.enter f args) w := fun args w => by
    simp only [callFunc, Sem.run_bind, run_program, Result.andThen_ok, hfn]
    rw [hname, hbody]
    simp
  refine ⟨l, [{ target := .collected D, args := #[] }], W1, { target := .fn (.func f) cv.toArray, args := #[.func (.yield l) #[] #[]] }, W1, f, #[.func (.yield l) #[] #[]] ++ cv.toArray, W1, run_enterLoop_outer _ _ _ _ _, ?_, (fun _ _ => trivial), ?_, (fun hh => by cases hh), ?_⟩
  · simp only [resolve, hval]
    simp [go_sem]
  · simp [invoke, go_sem, heg]
  have hfr : ∀ b, W1.heap.size ≤ b → g.S b = 0 := fun b hb => (hok1.fresh b (Nat.le_trans m1.size hb)).1
  refine CallsIn.mono (hit g.S W1 cv hfr (hcv.mono fun _ _ => EpAt.mono (m1.ext g.S)) (n - 1) l
    (fun i S W => JAt P X r (code X fuel hint cA) (code X fuel hint cB) K ps.toList xs EJ l D rec0 s.tm a.tmps i S W) (fun _ _ W => JxAt r K EJ l D rec0 s.tm a.tmps W)
    (fun i S A S' B hj m => by obtain ⟨g', bx, hj, hS, e⟩ := hj; obtain ⟨k1, k2⟩ := jr_more hj hS m; exact ⟨_, bx, k1, k2, e⟩)
    (fun i S A S' B hj m => by obtain ⟨g', bx, ax, c, h1, hj, e⟩ := hj; exact ⟨g', bx, ax, c, h1, jr_same hj m.1, e⟩)
    (fun m i S x vals W hx hj hv => round_ok IA IB hno hb.1.1 hb.1.2 hps rfl (h.sz.trans hInv.n) hEl hDl m i S x vals W hx hj hv)
    ⟨g, _, hJ, fun _ => Nat.le_refl _, e⟩) ?_
  -- behind the iterator
  have fin : ∀ (ax : AX) (g' : Gh) (bx : BX) (rec' : Loop) (W : World), JR EJ l D rec' s.tm a.tmps g' bx W → K ax ⟨renTm s.tm, bx⟩ = some r →
      Q (axTo ax) { a with defers := [{ target := .collected D, args := #[] }] ++ a.defers } W := by
    intro ax g' bx rec' W hj hk
    have hoW : OKW E0 g' W := hok1.trans (Nat.le_trans hT.top (by omega)) hj.ok
    let E' : Ent := ⟨W, g'.S, g'.who, g'.B, X.n, { target := .collected D, args := #[] } :: E.df, 3 * passed⟩
    refine hQ ax ⟨renTm s.tm, bx⟩ _ W g' E' hk ⟨hoW.self _ _ _, by show _ ++ a.defers = _; rw [h.df]; rfl, h.sz.trans hInv.n, hj.tm, hj.bx⟩ ⟨rfl, Nat.le_refl _, fun g2 w2 h2 => hoW.trans (Nat.le_trans hT.top (by omega)) h2, fun d hd => ?_, ?_⟩ (by simp [plainC])
    · rcases List.mem_cons.1 hd with rfl | hd
      · exact ⟨D, rfl, hE0D, (Array.getElem?_eq_some_iff.1 hj.hD).1, hj.wD, hj.hD⟩
      · obtain ⟨D', rfl, h1, h2, h3, h4⟩ := hInv.marks d hd
        have hw : D' < w.heap.size := Nat.lt_of_lt_of_le h2 h.ok.size
        have hg0 : g0.who D' = none := ((h.ok.oldS D' h2).2).trans h3
        have hg1 : g.who D' = none := by show renO (g0.who D') = none; rw [hg0]; rfl
        refine ⟨D', rfl, h1, Nat.lt_of_lt_of_le hw hj.ok.size, ((hj.ok.oldS D' hw).2).trans hg1, ?_⟩
        exact ((hj.ok.old D' hw hg1).trans (h.ok.old D' h2 h3)).trans h4
    · refine List.nodup_cons.2 ⟨fun hd => ?_, hInv.nod⟩
      obtain ⟨D', he, h1, h2, _⟩ := hInv.marks _ hd
      have : D = D' := by injection he with he _; injection he
      have := h.ok.size
      omega
  rintro e2 W2 ⟨⟨v, rfl⟩, ⟨S', hj⟩ | ⟨i, S', hj⟩⟩
  · obtain ⟨g', bx, hj, _, e⟩ := hj
    rw [List.drop_length] at e
    simp only [roundsF] at e
    obtain ⟨hj2, _⟩ := jr_put (rec' := rec0 .exhausted none) hj hEl hDl
    exact ⟨none, _, run_endLoop hj.hl (by simp [rec0, recOf]), fin .norm g' bx _ _ hj2 e⟩
  · obtain ⟨g', bx, ax, c, h1, hj, e⟩ := hj
    obtain ⟨hj2, _⟩ := jr_put (rec' := rec0 .exhausted (some c)) hj hEl hDl
    refine ⟨some c, _, run_endLoop hj.hl (by simp [rec0, recOf]), ?_⟩
    have hq := fin ax g' bx _ _ hj2 e
    cases ax with
    | norm => cases h1
    | ret => obtain rfl := Option.some.inj h1; exact wpIn_ret hq
    | exit id => obtain rfl := Option.some.inj h1; exact wpIn_exit hq
theorem plain_seq {x y : Code} (h : plainC (.seq x y) = true) : plainC x = true ∧ plainC y = true := by simpa [plainC] using h
theorem plain_cond {c : Operand} {x y : Code} (h : plainC (.cond c x y) = true) : plainC x = true ∧ plainC y = true := by simpa [plainC] using h
theorem code_ok (hX : XOK P X) (hI : XI P X) (hmix : P.follows .mixedOrders = true) {R : Type} {fuel : Nat} {hint : Nat → Option (List Nat × List Nat)} {r : R} : ∀ (c : Code), CodeOK P X fuel hint r c := by
  intro c
  induction c with
  | skip => intro ro n E0 E s K g a w Q _ _ hInv e h hQ; exact wpIn_skip (hQ .norm _ _ _ _ _ e h hInv fun _ => rfl)
  | ret => intro ro n E0 E s K g a w Q _ _ hInv e h hQ; exact wpIn_ret (hQ .ret _ _ _ _ _ e h hInv fun _ => rfl)
  | exit id => intro ro n E0 E s K g a w Q _ _ hInv e h hQ; exact wpIn_exit (hQ (.exit id) _ _ _ _ _ e h hInv fun _ => rfl)
  | region id ops draw =>
    intro ro n E0 E s K g a w Q hR hP hInv e h hQ
    simp only [code] at e
    obtain ⟨s, g, e, h⟩ : ∃ s0 g', (regionF X ops draw s0 fun s' => keep (hint id) s' fun s'' => K .norm s'') = some r ∧ Rel E g' s0 a w := by
      rcases hP with hno | ⟨_, rfl, hT⟩
      · rw [hno] at e; exact ⟨s, g, e, h⟩
      · exact prep_ok (fun b o hb => by obtain ⟨d, h1, h2, _⟩ := hT.who b o hb; exact ⟨d, h1, h2⟩) hT.s0 _ h e
    have hQ' : ∀ s' a' w' g', (fun s' => keep (hint id) s' fun s'' => K .norm s'') s' = some r → Rel E g' s' a' w' → Q .normal a' w' := fun s' a' w' g' hk hr => by
      obtain ⟨s'', h1, h2⟩ := keep_ok hk
      exact hQ .norm s'' a' w' g' E h1 (h2 _ _ _ _ hr) hInv fun _ => rfl
    rcases hR with ⟨rfl, _⟩ | hpl
    · refine wpIn_wide.2 ?_
      cases draw with
      | false => exact wp_region_list (region_list_ok hX hInv.n hQ' h e)
      | true => exact wp_region_any hmix (region_any_ok hX hInv.n hQ' h e)
    · exact region_okIn hX hInv.n hmix h hpl hQ' e
  | seq x y ihx ihy =>
    intro ro n E0 E s K g a w Q hR hP hInv e h hQ
    simp only [code] at e
    have hRx : (ro = none ∧ Top E0) ∨ plainC x = true := hR.imp (fun h => h) fun hh => (plain_seq hh).1
    have hRy : (ro = none ∧ Top E0) ∨ plainC y = true := hR.imp (fun h => h) fun hh => (plain_seq hh).2
    have hPx : (∀ id, X.prep id = []) ∨ (plainC x = true ∧ E = E0 ∧ Top E0) := hP.imp (fun h => h) fun hh => ⟨(plain_seq hh.1).1, hh.2⟩
    refine wpIn_seq (ihx hRx hPx hInv e h fun ax s' a' w' g' E' hk hr hInv' hE => ?_)
    have hE' : plainC (.seq x y) = true → E' = E := fun hh => hE (plain_seq hh).1
    cases ax with
    | norm => exact ihy hRy (hP.imp (fun h => h) fun hh => ⟨(plain_seq hh.1).2, (hE' hh.1).trans hh.2.1, hh.2.2⟩) hInv' hk hr fun ax s2 a2 w2 g2 E2 hk2 hr2 hInv2 hE2 => hQ ax s2 a2 w2 g2 E2 hk2 hr2 hInv2 fun hh => (hE2 (plain_seq hh).2).trans (hE' hh)
    | exit id => exact hQ (.exit id) s' a' w' g' E' hk hr hInv' hE'
    | ret => exact hQ .ret s' a' w' g' E' hk hr hInv' hE'
  | cond c x y ihx ihy =>
    intro ro n E0 E s K g a w Q hR hP hInv e h hQ
    simp only [code] at e
    rw [refC_eq] at e
    split at e
    case h_2 => cases e
    rename_i b hb
    refine wpIn_cond (evB_ok h hb) ?_
    cases b with
    | true => exact ihx (hR.imp (fun h => h) fun hh => (plain_cond hh).1) (hP.imp (fun h => h) fun hh => ⟨(plain_cond hh.1).1, hh.2⟩) hInv e h fun ax s' a' w' g' E' hk hr hi hE => hQ ax s' a' w' g' E' hk hr hi fun hh => hE (plain_cond hh).1
    | false => exact ihy (hR.imp (fun h => h) fun hh => (plain_cond hh).2) (hP.imp (fun h => h) fun hh => ⟨(plain_cond hh.1).2, hh.2⟩) hInv e h fun ax s' a' w' g' E' hk hr hi hE => hQ ax s' a' w' g' E' hk hr hi fun hh => hE (plain_cond hh).2
  | block id b ih =>
    intro ro n E0 E s K g a w Q hR hP hInv e h hQ
    simp only [code] at e
    refine wpIn_block (ih (hR.imp (fun h => h) fun hh => by simpa [plainC] using hh) (hP.imp (fun h => h) fun hh => ⟨by simpa [plainC] using hh.1, hh.2⟩) hInv e h fun ax s' a' w' g' E' hk hr hInv' hE => ?_)
    have hE' : plainC (.block id b) = true → E' = E := fun hh => hE (by simpa [plainC] using hh)
    cases ax with
    | norm => exact hQ .norm s' a' w' g' E' hk hr hInv' hE'
    | exit i =>
      show Exit.inBlock id Q (.exit i) a' w'
      simp only [Exit.inBlock]
      simp only at hk
      cases hb : Nat.beq i id
      · rw [hb] at hk
        rw [if_neg (beq_false hb)]; exact hQ (.exit i) s' a' w' g' E' hk hr hInv' hE'
      · rw [hb] at hk
        rw [if_pos (beq_true hb)]; exact hQ .norm s' a' w' g' E' hk hr hInv' hE'
    | ret => exact hQ .ret s' a' w' g' E' hk hr hInv' hE'
  | loop b ih =>
    intro ro n E0 E s K g a w Q hR hP hInv e h hQ
    simp only [code] at e
    have hRb : (ro = none ∧ Top E0) ∨ plainC b = true := hR.imp (fun h => h) fun hh => by simpa [plainC] using hh
    refine wpIn_loop_rounds fuel ?_
    have key : ∀ m (E : Ent) (s : St) (g : Gh) (a : Act) (w : World), ((∀ id, X.prep id = []) ∨ (plainC b = true ∧ E = E0 ∧ Top E0)) → loopN (code X fuel hint b) m s K = some r → Rel E g s a w → Inv X E0 E →
        (∀ ax s' a' w' g' E', K ax s' = some r → Rel E' g' s' a' w' → Inv X E0 E' → (plainC (.loop b) = true → E' = E) → Q (axTo ax) a' w') → Code.roundsIn (FW ro) n P b Q m a w := by
      intro m
      induction m with
      | zero => intro E s g a w _ e _ _ _; cases e
      | succ m ihm =>
        intro E s g a w hP e h hInv hQ
        simp only [loopN] at e
        rw [roundsIn_succ]
        refine ih hRb hP hInv e h fun ax s' a' w' g' E' hk hr hInv' hE => ?_
        have hE' : plainC (.loop b) = true → E' = E := fun hh => hE (by simpa [plainC] using hh)
        cases ax with
        | norm => exact ihm E' s' g' a' w' (hP.imp (fun h => h) fun hh => ⟨hh.1, (hE' (by simpa [plainC] using hh.1)).trans hh.2.1, hh.2.2⟩) hk hr hInv' fun ax s2 a2 w2 g2 E2 hk2 hr2 hi2 hE2 => hQ ax s2 a2 w2 g2 E2 hk2 hr2 hi2 fun hh => (hE2 hh).trans (hE' hh)
        | exit id => exact hQ (.exit id) s' a' w' g' E' hk hr hInv' hE'
        | ret => exact hQ .ret s' a' w' g' E' hk hr hInv' hE'
    exact key fuel E s g a w (hP.imp (fun h => h) fun hh => ⟨by simpa [plainC] using hh.1, hh.2⟩) e h hInv hQ
  | rangeFunc x ps cA cB iA iB => exact range_ok hI iA iB
  | _ => intro ro n E0 E s K g a w Q _ _ _ e; simp only [code] at e; cases e
end
end Go.Proofs.Ythmdefgepnkgiaa.Eng
