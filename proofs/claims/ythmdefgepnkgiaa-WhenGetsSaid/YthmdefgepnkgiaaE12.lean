/- Calls of the program's own functions. Conditions: what is called keeps its promise; the relation between the two states. -/
import Derived.Test.YthmdefgepnkgiaaE11
namespace Go.Proofs.Ythmdefgepnkgiaa.Eng
open Go
structure EntryOK (g : Gh) (w : World) (n : Nat) : Prop where
  fresh : ∀ b, w.heap.size ≤ b → g.S b = 0 ∧ g.who b = none
  box : ∀ b o, g.who b = some o → ∃ k, k < n ∧ o = .box (passed + k) ∧ b = g.B (passed + k)
/-- What a call comes to. -/
def Ends (g : Gh) (w : World) (n : Nat) (r : Res) (e : Ending) (w' : World) : Prop :=
  ∃ v g', e = .returned v ∧ OKW ⟨w, g.S, g.who, g.B, 0, [], passed + n⟩ g' w' ∧ RepA g' w' r.1 v ∧ (∀ k cells, r.2[k]? = some cells → BoxAt g' w' (passed + k) cells) ∧ r.2.length = n
def CallOK (P : Program) (f : FuncId) (as : List AV) (bs : List (List CV)) (r : Res) : Prop :=
  (∃ fn, P.funcs[f]? = some fn ∧ (fn.name == "runtime.NumGoroutine") = false ∧ fn.body.isNone = false) ∧
  ∀ (g : Gh) (w : World) (vals : List Value), EntryOK g w bs.length → All2 (RepA g w) as vals → (∀ k cells, bs[k]? = some cells → BoxAt g w (passed + k) cells) →
    Calls P f vals.toArray w (Ends g w bs.length r)
section
variable {P : Program} {X : Ctx} {E : Ent} {g : Gh} {s s' : St} {a : Act} {w : World} {o : Oper}
theorem evAll_ok (h : Rel E g s a w) {d : Nat} : ∀ {xs : List Operand} {ts : List TypeId} {as : List AV}, evAll X s d xs ts = some as → All2 (RepA g w) as (xs.map a.eval)
  | [], ts, as, e => by obtain rfl := Option.some.inj e; exact .nil
  | x :: xs, ts, as, e => by
    simp only [evAll] at e
    split at e
    case h_2 => cases e
    rename_i v hv
    split at e
    case h_2 => cases e
    rename_i l hl
    obtain rfl := Option.some.inj e
    exact .cons (ev_ok h hv) (evAll_ok h hl)
theorem idxOf_get {names : List Nat} {b : Nat} (h : b ∈ names) : names[names.idxOf b]? = some b := by
  have hlt := List.idxOf_lt_length_of_mem h
  rw [List.getElem?_eq_getElem hlt, List.getElem_idxOf]
theorem boxesOf_ok : ∀ {names : List Nat} {bs : List (List CV)}, boxesOf s names = some bs → bs.length = names.length ∧ ∀ (k d : Nat), names[k]? = some d → ∃ (cells cs : List CV), s.bx d = some cells ∧ stripAll cells = some cs ∧ bs[k]? = some cs
  | [], bs, e => by
    obtain rfl := Option.some.inj e
    exact ⟨rfl, fun k d h => by simp at h⟩
  | b :: r, bs, e => by
    simp only [boxesOf] at e
    split at e
    case h_2 => cases e
    rename_i cs hcs
    split at e
    case h_2 => cases e
    rename_i c' l hc hl
    obtain rfl := Option.some.inj e
    obtain ⟨h1, h2⟩ := boxesOf_ok hl
    refine ⟨by simp [h1], fun k d hk => ?_⟩
    cases k with
    | zero => simp at hk; subst hk; exact ⟨cs, c', hcs, hc, rfl⟩
    | succ k => simpa using h2 k d (by simpa using hk)
theorem strip_rep {g' : Gh} (hS : g'.S = g.S) : ∀ {cells cs : List CV} {l : List Value}, stripAll cells = some cs → All2 (RepK g w) cells l → All2 (RepK g' w) cs l
  | [], cs, l, e, h => by obtain rfl := Option.some.inj e; cases h; exact .nil
  | c :: cells, cs, l, e, h => by
    simp only [stripAll] at e
    split at e
    case h_2 => cases e
    rename_i x q hx hq
    obtain rfl := Option.some.inj e
    cases h with
    | cons h1 h2 =>
      refine .cons ⟨?_, h1.2⟩ (strip_rep hS hq h2)
      cases c <;> simp only [CV.strip] at hx <;> first | cases hx; done | skip
      · obtain rfl := Option.some.inj hx
        show RepD g'.S w _ _
        rw [hS]; exact h1.1
      · obtain rfl := Option.some.inj hx
        show RepD g'.S w _ _
        rw [hS]; exact h1.1.1
theorem ins_mem {l : List Nat} {c b : Nat} (h : b ∈ l) : b ∈ (bif l.elem c then l else c :: l) := by
  cases l.elem c
  · exact List.mem_cons_of_mem _ h
  · exact h
theorem ins_self (l : List Nat) (c : Nat) : c ∈ (bif l.elem c then l else c :: l) := by
  cases hb : l.elem c
  · simp
  · simpa using hb
theorem foldr_old {l0 : List Nat} {b : Nat} (h : b ∈ l0) : ∀ (cs : List (Nat × Nat)), b ∈ cs.foldr (fun c l => bif l.elem c.1 then l else c.1 :: l) l0
  | [] => h
  | _ :: cs => ins_mem (foldr_old h cs)
theorem names_mem : ∀ {cs : List CV} {b o : Nat} {q : Option (Nat × Option Nat)}, CV.ptr b o q ∈ cs → b ∈ namesIn cs
  | [], _, _, _, h => by cases h
  | c :: r, b, o, q, h => by
    rcases List.mem_cons.1 h with rfl | h
    · exact ins_self _ _
    · have ih := names_mem h
      cases c with
      | ptr b' o' q' => exact ins_mem ih
      | fn f cs => exact foldr_old ih cs
      | _ => exact ih
theorem foldr_mem (l0 : List Nat) : ∀ {cs : List (Nat × Nat)} {c : Nat × Nat}, c ∈ cs → c.1 ∈ cs.foldr (fun c l => bif l.elem c.1 then l else c.1 :: l) l0
  | [], _, h => by cases h
  | c' :: cs, c, h => by
    rcases List.mem_cons.1 h with rfl | h
    · exact ins_self _ _
    · exact ins_mem (foldr_mem l0 h)
theorem names_mem_fn : ∀ {cs : List CV} {f : FuncId} {caps : List (Nat × Nat)} {c : Nat × Nat}, CV.fn f caps ∈ cs → c ∈ caps → c.1 ∈ namesIn cs
  | [], _, _, _, h, _ => by cases h
  | c0 :: r, f, caps, c, h, hc => by
    rcases List.mem_cons.1 h with rfl | h
    · exact foldr_mem _ hc
    · have ih := names_mem_fn h hc
      cases c0 with
      | ptr b' o' q' => exact ins_mem ih
      | fn f' cs => exact foldr_old ih cs
      | _ => exact ih
theorem nodup_names : ∀ (cs : List CV), (namesIn cs).Nodup
  | [] => .nil
  | c :: r => by
    have ih := nodup_names r
    cases c with
    | ptr b o q =>
      simp only [namesIn]
      cases hb : (namesIn r).elem b
      · simp only [cond_false, List.nodup_cons]; exact ⟨by simpa using hb, ih⟩
      · exact ih
    | fn f cs =>
      simp only [namesIn]
      induction cs with
      | nil => exact ih
      | cons c cs ihc =>
        simp only [List.foldr_cons]
        cases hb : (List.foldr (fun (c : Nat × Nat) l => bif l.elem c.1 then l else c.1 :: l) (namesIn r) cs).elem c.1
        · simp only [cond_false, List.nodup_cons]; exact ⟨by simpa using hb, ihc⟩
        · exact ihc
    | _ => exact ih
/-- The callee's view. -/
def calleeGh (g : Gh) (names : List Nat) : Gh :=
  ⟨g.S, fun b => match names.findIdx? (fun d => g.B d == b) with | some k => some (.box (passed + k)) | none => none, fun x => g.B (names.getD (x - passed) 0)⟩
theorem calleeB (g : Gh) {names : List Nat} {k d : Nat} (h : names[k]? = some d) : (calleeGh g names).B (passed + k) = g.B d := by
  simp [calleeGh, List.getD_eq_getElem?_getD, h]
theorem hand_ok {names : List Nat} {c : CV} {v : Value} (h : RepC g w c v) (h1 : ∀ b o q, c = .ptr b o q → b ∈ names) (h2 : ∀ f caps x, c = .fn f caps → x ∈ caps → x.1 ∈ names) : RepC (calleeGh g names) w (handC names c) v := by
  cases c with
  | d x => exact h
  | own t x => exact h.1
  | fn f caps =>
    simp only [handC, RepC] at h ⊢
    rw [h]
    congr 2
    rw [List.map_map]
    refine List.map_congr_left fun x hx => ?_
    have := idxOf_get (h2 f caps x rfl hx)
    simp only [Function.comp, nameOf]
    rw [calleeB g this]
  | ptr b o q =>
    have := idxOf_get (h1 b o q rfl)
    exact RepC.ptr_iff (calleeB g this) h
  | ep row => exact h
  | clo f caps => exact h
  | yl l => trivial
  | u => trivial
  | un => exact h
theorem handAll_ok (names : List Nat) : ∀ {as as' : List AV} {vs : List Value}, handAll names as = some as' → All2 (RepA g w) as vs → (∀ b o q, CV.ptr b o q ∈ cellsAll as → b ∈ names) → (∀ f caps x, CV.fn f caps ∈ cellsAll as → x ∈ caps → x.1 ∈ names) → All2 (RepA (calleeGh g names) w) as' vs
  | [], as', vs, e, h, _, _ => by obtain rfl := Option.some.inj e; cases h; exact .nil
  | .tup _ :: as, as', vs, e, h, _, _ => by simp [handAll] at e
  | .one ag cs :: as, as', vs, e, h, h1, h2 => by
    simp only [handAll] at e
    split at e
    case h_2 => cases e
    rename_i l hl
    obtain rfl := Option.some.inj e
    simp only [cellsAll, List.mem_append] at h1 h2
    cases h with
    | cons ha hr =>
      refine .cons ?_ (handAll_ok names hl hr (fun b o q hm => h1 b o q (.inr hm)) (fun f caps x hm => h2 f caps x (.inr hm)))
      have key : ∀ (cs' : List CV), (∀ c ∈ cs', c ∈ cs) → ∀ l, All2 (RepK g w) cs' l → All2 (RepK (calleeGh g names) w) (cs'.map (handC names)) l := by
        intro cs' hm l hl
        induction hl with
        | nil => exact .nil
        | cons hk _ ih =>
          refine .cons ⟨hand_ok hk.1 (fun b o q e => h1 b o q (.inl (by rw [← e]; exact hm _ (by simp)))) (fun f caps x e hx => h2 f caps x (.inl (by rw [← e]; exact hm _ (by simp))) hx), hk.2⟩ (ih fun c hc => hm c (by simp [hc]))
      cases ag with
      | true =>
        obtain ⟨l', hv, hl'⟩ := ha
        exact ⟨l', hv, key cs (fun _ h => h) l' hl'⟩
      | false =>
        obtain ⟨c, rfl, hc⟩ := ha
        exact ⟨_, rfl, hand_ok hc (fun b o q e => h1 b o q (.inl (by simp [e]))) (fun f caps x e hx => h2 f caps x (.inl (by simp [e])) hx)⟩
theorem putBoxes_out {bx : Nat → Option (List CV)} : ∀ {names : List Nat} {outs : List (List CV)} {d : Nat}, d ∉ names → putBoxes bx names outs d = bx d
  | [], _, _, _ => rfl
  | _ :: _, [], _, _ => rfl
  | b :: r, o :: q, d, h => by
    simp only [List.mem_cons, not_or] at h
    rw [putBoxes, upd_ne _ _ h.1]; exact putBoxes_out h.2
theorem putBoxes_in {bx : Nat → Option (List CV)} : ∀ {names : List Nat} {outs : List (List CV)} {k d : Nat}, names.Nodup → outs.length = names.length → names[k]? = some d → ∃ o, outs[k]? = some o ∧ putBoxes bx names outs d = some (o.map CV.only)
  | [], _, _, _, _, _, h => by simp at h
  | b :: r, [], _, _, _, hl, _ => by simp at hl
  | b :: r, o :: q, k, d, hn, hl, h => by
    rw [List.nodup_cons] at hn
    cases k with
    | zero => simp at h; subst h; exact ⟨o, rfl, by rw [putBoxes, upd_same]⟩
    | succ k =>
      have h' : r[k]? = some d := by simpa using h
      obtain ⟨o', h1, h2⟩ := putBoxes_in (bx := bx) hn.2 (by simpa using hl) h'
      refine ⟨o', by simpa using h1, ?_⟩
      have hne : d ≠ b := fun e => hn.1 (by subst e; exact List.mem_of_getElem? h')
      rw [putBoxes, upd_ne _ _ hne]; exact h2
theorem findIdx_names {g : Gh} {w : World} {names : List Nat} (hn : names.Nodup) (hb : ∀ d ∈ names, g.who (g.B d) = some (.box d)) {k d : Nat} (hk : names[k]? = some d) : names.findIdx? (fun d' => g.B d' == g.B d) = some k := by
  have hd : d ∈ names := List.mem_of_getElem? hk
  have hlt := (List.getElem?_eq_some_iff.1 hk).1
  rw [List.findIdx?_eq_some_iff_getElem]
  refine ⟨hlt, by simp [(List.getElem?_eq_some_iff.1 hk).2], fun j hj => ?_⟩
  have hjl : j < names.length := by omega
  simp only [beq_iff_eq]
  intro e
  have h1 := hb names[j] (List.getElem_mem hjl)
  rw [e, hb d hd] at h1
  have : d = names[j] := by cases h1; rfl
  have h2 : names[k] = names[j] := by rw [(List.getElem?_eq_some_iff.1 hk).2, this]
  exact (List.pairwise_iff_getElem.1 hn) j k hjl hlt hj h2.symm
def adOwner (d : Nat) : Option Owner → Option Owner
  | some (.tok t) => some (.tok (tk d t))
  | _ => none
/-- The caller's view, behind a call. -/
def backGh (g g' : Gh) (n d : Nat) : Gh := ⟨g'.S, fun b => if b < n then g.who b else adOwner d (g'.who b), g.B⟩
theorem caps_vals (g : Gh) (w : World) : ∀ (caps : List (Nat × Nat)), All2 (RepA g w) (caps.map fun c => AV.c (.ptr c.1 c.2 none)) (caps.map fun c => Value.pointer (some ⟨g.B c.1, c.2, none⟩))
  | [] => .nil
  | _ :: cs => .cons ⟨_, rfl, rfl⟩ (caps_vals g w cs)
theorem exec_call (hX : ∀ f as bs r, X.pre f as bs = true → (X.call f as bs).go some = some r → CallOK P f as bs r) (hn : E.n = X.n) (h : Rel E g s a w) {q : Option (List Nat)} {c : Call} {fo : Operand} (ho : o.op = .call c) (hcal : c.callee = .value fo) (hd : dstOk X.n o.dst = true) (e : exec X q o s some = some s') : Goes P E o s' a w := by
  unfold exec at e
  simp only [ho, hcal] at e
  split at e
  case h_2 => cases e
  rename_i fc as hfc has
  rw [callF_nat] at e
  obtain ⟨⟨v, bx⟩, hcall, e⟩ := Option.bind_eq_some_iff.1 e
  obtain rfl := Option.some.inj e
  have hfv := evC_ok h hfc
  have hav := evAll_ok h has
  unfold callF at hcall
  split at hcall
  case h_2 => cases hcall
  rename_i f caps
  generalize hall : as ++ caps.map (fun c => AV.c (.ptr c.1 c.2 none)) = all at hcall
  generalize hnames : namesIn (cellsAll all) = names at hcall
  cases hq : (q.isSome && !names.isEmpty)
  case true => rw [hq] at hcall; cases hcall
  rw [hq] at hcall
  simp only [cond_false] at hcall
  split at hcall
  case h_2 => cases hcall
  rename_i as' bs has' hbs
  obtain ⟨hpre, hcall2⟩ := b_true hcall
  clear hcall
  rename _ => hcall
  rw [CallK.nat] at hcall
  obtain ⟨⟨r, outs⟩, hr, hcall⟩ := Option.bind_eq_some_iff.1 hcall
  simp only [Option.some.injEq, Prod.mk.injEq] at hcall
  obtain ⟨rfl, rfl⟩ := hcall
  obtain ⟨⟨fn, hfn, hname, hbody⟩, hcok⟩ := hX _ _ _ _ hpre hr
  -- the values
  let cv : List Value := caps.map fun c => Value.pointer (some ⟨g.B c.1, c.2, none⟩)
  have hvals : All2 (RepA g w) all ((c.args.toList.map a.eval) ++ cv) := by
    rw [← hall]
    exact hav.append (caps_vals g w caps)
  have hnd : names.Nodup := by rw [← hnames]; exact nodup_names _
  obtain ⟨hbl, hbg⟩ := boxesOf_ok hbs
  have halive : ∀ d ∈ names, ∃ cells, s.bx d = some cells ∧ BoxAt g w d cells := by
    intro d hd
    obtain ⟨k, hk⟩ := List.mem_iff_getElem?.1 hd
    obtain ⟨cells, cs, h1, _⟩ := hbg k d hk
    exact ⟨cells, h1, h.bx d cells h1⟩
  have hwho : ∀ d ∈ names, g.who (g.B d) = some (.box d) := fun d hd => by
    obtain ⟨cells, _, h1⟩ := halive d hd
    exact h1.1
  let gc := calleeGh g names
  have hgcw : ∀ b, gc.who b ≠ none → ∃ k d, names[k]? = some d ∧ b = g.B d ∧ gc.who b = some (.box (passed + k)) := by
    intro b hb
    simp only [gc, calleeGh] at hb ⊢
    cases hf : names.findIdx? (fun d => g.B d == b) with
    | none => rw [hf] at hb; exact absurd rfl hb
    | some k =>
      obtain ⟨hlt, h1, _⟩ := List.findIdx?_eq_some_iff_getElem.1 hf
      exact ⟨k, names[k], List.getElem?_eq_getElem hlt, (beq_iff_eq.1 h1).symm, rfl⟩
  have hent : EntryOK gc w bs.length := by
    refine ⟨fun b hb => ⟨(h.ok.fresh b hb).1, ?_⟩, fun b o' hb => ?_⟩
    · refine Classical.byContradiction fun hne => ?_
      obtain ⟨k, d, hk, hbd, _⟩ := hgcw b hne
      have := hwho d (List.mem_of_getElem? hk)
      rw [← hbd, (h.ok.fresh b hb).2] at this
      cases this
    · obtain ⟨k, d, hk, hbd, hw⟩ := hgcw b (by rw [hb]; simp)
      rw [hw] at hb
      obtain rfl := Option.some.inj hb
      exact ⟨k, by rw [hbl]; exact (List.getElem?_eq_some_iff.1 hk).1, rfl, by rw [show gc.B (passed + k) = g.B d from calleeB g hk]; exact hbd⟩
  have hargs : All2 (RepA gc w) as' ((c.args.toList.map a.eval) ++ cv) := handAll_ok names has' hvals (fun b o q hm => by rw [← hnames]; exact names_mem hm) (fun f caps x hm hx => by rw [← hnames]; exact names_mem_fn hm hx)
  have hboxes : ∀ k cells, bs[k]? = some cells → BoxAt gc w (passed + k) cells := by
    intro k cells hk
    have hlt : k < names.length := by rw [← hbl]; exact (List.getElem?_eq_some_iff.1 hk).1
    have hkn : names[k]? = some names[k] := List.getElem?_eq_getElem hlt
    obtain ⟨cells0, cs, h1, h2, h3⟩ := hbg k _ hkn
    rw [hk] at h3
    obtain rfl := Option.some.inj h3
    obtain ⟨b1, b2, l, q2, et, b3, b4⟩ := h.bx _ _ h1
    have hB : gc.B (passed + k) = g.B names[k] := calleeB g hkn
    refine ⟨?_, ?_, l, q2, et, ?_, strip_rep (g := g) (g' := gc) rfl h2 b4⟩
    · rw [hB]
      simp only [gc, calleeGh]
      rw [findIdx_names (w := w) hnd hwho hkn]
    · rw [hB]; exact b2
    · rw [hB]; exact b3
  have hcalls := hcok gc w ((c.args.toList.map a.eval) ++ cv) hent hargs hboxes
  intro next Q hnext
  have hrun : (execOp a.eval o).run P w = .ok (.enter f ((c.args.toList.map a.eval) ++ cv).toArray) w := by
    have hfv' : a.eval fo = .func (.func f) #[] cv.toArray := hfv
    have harr : (c.args.map a.eval ++ cv.toArray) = ((c.args.toList.map a.eval) ++ cv).toArray := by
      apply Array.ext'; simp
    simp only [execOp, ho, resolve, hcal, hfv', Deferred.ofValue, Sem.run_bind, Sem.run_pure, Result.andThen_ok, invoke, callFunc, run_program, hfn, Array.empty_append, harr]
    rw [hname, hbody]
    simp
  unfold Oper.wp
  rw [hrun]
  simp only [Oper.upon]
  refine hcalls.mono fun e w' hend => ?_
  obtain ⟨v, g', rfl, hok, hv, houts, hol⟩ := hend
  refine hnext _ w' (backGh g g' w.heap.size (o.dst.getD 0)) ?_
  have hsize : w.heap.size ≤ w'.heap.size := hok.size
  have hwhon : ∀ b, b < w.heap.size → (∀ d ∈ names, b ≠ g.B d) → w'.heap[b]? = w.heap[b]? := by
    intro b hb hne
    refine hok.old b hb ?_
    refine Classical.byContradiction fun h0 => ?_
    obtain ⟨k, d, hk, hbd, _⟩ := hgcw b h0
    exact hne d (List.mem_of_getElem? hk) hbd
  have hgct : ∀ b t, gc.who b ≠ some (.tok t) := fun b t hb => by
    obtain ⟨k, d, hk, hbd, hw⟩ := hgcw b (by rw [hb]; simp)
    rw [hw] at hb; cases hb
  have hSb : ∀ b, b < w.heap.size → g'.S b = g.S b := fun b hb => (hok.oldS b hb).1 (hgct b)
  have hbox0 : ∀ d ∈ names, g.S (g.B d) = 0 := fun d hd => by
    obtain ⟨cells, _, h1⟩ := halive d hd
    exact h1.2.1
  have ex : Ext g.S w g'.S w' := by
    refine ⟨fun b => ?_, fun b o' x hlt hx => ?_⟩
    · by_cases hb : b < w.heap.size
      · rw [hSb b hb]; exact Nat.le_refl _
      · rw [(h.ok.fresh b (by omega)).1]; exact Nat.zero_le _
    · have hb : b < w.heap.size := by
        refine Classical.byContradiction fun hb => ?_
        rw [(h.ok.fresh b (by omega)).1] at hlt
        omega
      rw [cell_of_heap (hwhon b hb fun d hd e => by rw [e, hbox0 d hd] at hlt; omega)]
      exact hx
  have hC : ∀ c v, RepC g w c v → RepC (backGh g g' w.heap.size (o.dst.getD 0)) w' c v := by
    refine RepC.go ex (fun t y u hw => ?_) (fun _ => rfl)
    rcases hw with hw | ⟨b, cap, arr, el, r0, r1, r2, r3, r4, r5⟩
    · exact .inl hw
    · have hb : b < w.heap.size := (Array.getElem?_eq_some_iff.1 r2).1
      refine .inr ⟨b, cap, arr, el, r0, by simp only [backGh, if_pos hb]; exact r1, ?_, r3, r4, by simp only [backGh]; rw [hSb b hb]; exact r5⟩
      rw [hwhon b hb fun d hd e => by rw [e, hwho d hd] at r1; cases r1]; exact r2
  have hrel : Rel E (backGh g g' w.heap.size (o.dst.getD 0)) ⟨s.tm, putBoxes s.bx names outs⟩ a w' := by
    refine ⟨⟨hok.os.trans h.ok.os, hok.out.trans h.ok.out, hok.tape.trans h.ok.tape, Nat.le_trans h.ok.size hsize, fun b hb => ?_, fun b hb => ?_, fun b hb hw => ?_, h.ok.pB, h.ok.ext.trans ex⟩, h.df, h.sz, fun t => RepA.keep hC (h.tm t), fun d cells hd => ?_⟩
    · have := hok.fresh b hb
      refine ⟨this.1, ?_⟩
      simp only [backGh, if_neg (show ¬ b < w.heap.size by omega), this.2, adOwner]
    · have hbw : b < w.heap.size := Nat.lt_of_lt_of_le hb h.ok.size
      simp only [backGh, if_pos hbw]
      exact ⟨fun ht => (hSb b hbw).trans ((h.ok.oldS b hb).1 ht), (h.ok.oldS b hb).2⟩
    · have hbw : b < w.heap.size := Nat.lt_of_lt_of_le hb h.ok.size
      rw [hwhon b hbw fun d hd e => ?_]
      · exact h.ok.old b hb hw
      · have := (h.ok.oldS b hb).2
        rw [hw, e, hwho d hd] at this
        cases this
    · by_cases hm : d ∈ names
      · obtain ⟨k, hk⟩ := List.mem_iff_getElem?.1 hm
        obtain ⟨oc, h1, h2⟩ := putBoxes_in (bx := s.bx) hnd (by rw [hol, hbl]) hk
        simp only at hd
        rw [h2] at hd
        obtain rfl := Option.some.inj hd
        obtain ⟨b1, b2, l, q2, et, b3, b4⟩ := houts k oc h1
        have hB : g'.B (passed + k) = g.B d := by
          rw [hok.pB _ (Nat.le_add_right _ _) (by have := (List.getElem?_eq_some_iff.1 hk).1; rw [hbl]; exact Nat.add_lt_add_left this _)]
          exact calleeB g hk
        have hlt : g.B d < w.heap.size := by
          obtain ⟨cells, _, _, _, _, _, _, hh, _⟩ := halive d hm
          exact (Array.getElem?_eq_some_iff.1 hh).1
        rw [hB] at b1 b2 b3
        refine ⟨by simp only [backGh, if_pos hlt]; exact hwho d hm, b2, l, q2, et, b3, All2.map_left _ (fun c v hk => ⟨?_, hk.2⟩) b4⟩
        have hk1 := hk.1
        cases c <;> first | trivial | exact hk1
      · simp only at hd
        rw [putBoxes_out hm] at hd
        obtain ⟨b1, b2, l, q2, et, b3, b4⟩ := h.bx d cells hd
        have hlt : g.B d < w.heap.size := (Array.getElem?_eq_some_iff.1 b3).1
        refine ⟨by simp only [backGh, if_pos hlt]; exact b1, by simp only [backGh]; rw [hSb _ hlt]; exact b2, l, q2, et, ?_, All2.mono (fun c v hk => ⟨hC c v hk.1, hk.2⟩) b4⟩
        rw [show (backGh g g' w.heap.size (o.dst.getD 0)).B d = g.B d from rfl]
        rw [hwhon _ hlt fun d' hd' e => ?_]
        · exact b3
        · rw [e, hwho d' hd'] at b1
          cases b1
          exact hm hd'
  refine hrel.put o.dst (by rw [hn]; exact hd) (RepA.lift (fun c u hu => ?_) hv)
  cases c with
  | d x => exact hu
  | own t x =>
    refine ⟨hu.1, ?_⟩
    rcases hu.2 with hw | ⟨b, cap, arr, el, r0, r1, r2, r3, r4, r5⟩
    · exact .inl hw
    · refine .inr ⟨b, cap, arr, el, r0, ?_, r2, r3, r4, r5⟩
      by_cases hb : b < w.heap.size
      · have := (hok.oldS b hb).2
        rw [r1] at this
        exact absurd this.symm (hgct b t)
      · simp only [backGh, if_neg hb, r1, adOwner]
  | clo f caps => exact hu
  | _ => trivial
end
end Go.Proofs.Ythmdefgepnkgiaa.Eng
