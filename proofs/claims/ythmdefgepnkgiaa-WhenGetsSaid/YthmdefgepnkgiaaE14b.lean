/- A region that draws its order comes to the same in each order. Conditions: the relation between the two states; the static test of the region. -/
import Derived.Test.YthmdefgepnkgiaaE14e
namespace Go.Proofs.Ythmdefgepnkgiaa.Eng
open Go
section
variable {P : Program} {X : Ctx} {E : Ent} {ops : Array Oper} {o : Oper}
def storeH (X : Ctx) (o : Oper) (f : TM) (b : BX) : Option (AV × BX) := bif o.dst.isNone then (exec X none o ⟨f, b⟩ some).map fun s => (.one false [.un], s.bx) else none
theorem storeF_tm {s s' : St} {i : TI} {p : CV} {cs : List CV} (h : storeF s i p cs some = some s') : s'.tm = s.tm := by
  unfold storeF at h
  split at h
  · split at h
    · obtain ⟨_, h⟩ := b_true h
      obtain rfl := Option.some.inj h
      rfl
    · cases h
  · cases h
theorem storeF_cong {f f' : TM} {b : BX} {i : TI} {p : CV} {cs : List CV} : (storeF ⟨f, b⟩ i p cs some).map (fun s => ((.one false [.un] : AV), s.bx)) = (storeF ⟨f', b⟩ i p cs some).map (fun s => ((.one false [.un] : AV), s.bx)) := by
  unfold storeF
  cases p with
  | ptr d o q =>
    cases q with
    | some q => rfl
    | none =>
    simp only
    cases b d with
    | none => rfl
    | some cells =>
      simp only
      cases (Nat.beq cs.length i.size && cs.all CV.sure && Nat.ble (o + cs.length) cells.length) <;> rfl
  | _ => rfl
theorem form_store {q : Option (List Nat)} {T : TypeId} {p x : Operand} (ho : o.op = .store T p x) : Form X ops q o (stepH X ops o (storeH X o)) := by
  refine form_of (fun s => ?_) fun f f' b h => ?_
  · obtain ⟨f, b⟩ := s
    unfold storeH exec
    simp only [ho]
    cases X.ty T with
    | none => cases o.dst.isNone <;> rfl
    | some i =>
      cases evC ⟨f, b⟩ p with
      | none => cases o.dst.isNone <;> rfl
      | some pc =>
        cases ev X ⟨f, b⟩ 0 T x with
        | none => cases o.dst.isNone <;> rfl
        | some v =>
          cases v with
          | tup vs => cases o.dst.isNone <;> rfl
          | one ag cs =>
            cases hd : o.dst.isNone
            · rfl
            · have hd' : o.dst = none := by simpa using hd
              simp only [cond_true, hd', St.put]
              cases he : storeF ⟨f, b⟩ i pc cs some with
              | none => rfl
              | some s' =>
                have := storeF_tm he
                simp only at this
                simp [← this]
  · unfold storeH exec
    unfold look at h
    rw [ho] at h
    simp only [Op.operands] at h
    simp only [ho]
    rw [evC_cong (x := p) (f := f) (f' := f') (b := b) (b' := b) fun t e => h t (by simp [e]), ev_cong (x := x) (f := f) (f' := f') (b := b) (b' := b) fun t e => h t (by simp [e])]
    cases o.dst.isNone
    · rfl
    · simp only [cond_true]
      split
      · exact storeF_cong
      · rfl
def callH (X : Ctx) (q : Option (List Nat)) (o : Oper) (f : TM) (b : BX) : Option (AV × BX) :=
  match o.op with
  | .call c => match c.callee with
    | .value fo => match evC ⟨f, b⟩ fo, evAll X ⟨f, b⟩ 0 c.args.toList c.argTypes.toList with
      | some fc, some as => callF X q ⟨f, b⟩ (o.dst.getD 0) fc as fun v bx => some (v, bx)
      | _, _ => none
    | _ => none
  | _ => none
theorem callF_cong {R : Type} {q : Option (List Nat)} {f f' : TM} {b : BX} {d : Nat} {fc : CV} {as : List AV} {K : AV → BX → Option R} : callF X q ⟨f, b⟩ d fc as K = callF X q ⟨f', b⟩ d fc as K := by
  unfold callF
  have : ∀ names, boxesOf ⟨f, b⟩ names = boxesOf ⟨f', b⟩ names := by
    intro names
    induction names with
    | nil => rfl
    | cons n r ih => simp only [boxesOf, ih]
  simp only [this]
theorem form_call {q : Option (List Nat)} {c : Call} {fo : Operand} (ho : o.op = .call c) (hc : c.callee = .value fo) : Form X ops q o (stepH X ops o (callH X q o)) := by
  refine form_of (fun s => ?_) fun f f' b h => ?_
  · obtain ⟨f, b⟩ := s
    unfold callH exec
    simp only [ho, hc]
    cases evC ⟨f, b⟩ fo with
    | none => rfl
    | some fc =>
      cases evAll X ⟨f, b⟩ 0 c.args.toList c.argTypes.toList with
      | none => rfl
      | some as =>
        simp only
        rw [callF_nat]
        cases callF X q ⟨f, b⟩ (o.dst.getD 0) fc as (fun a b => some (a, b)) <;> rfl
  · unfold callH
    unfold look at h
    rw [ho] at h
    simp only [Op.operands, Call.operands, hc] at h
    simp only [ho, hc]
    rw [evC_cong (x := fo) (f := f) (f' := f') (b := b) (b' := b) fun t e => h t (by simp [e]), evAll_cong (f := f) (f' := f') (b := b) (b' := b) fun t ht => h t (by simp; right; simpa using ht)]
    split
    · exact callF_cong
    · rfl
theorem silent_call {ds : List Nat} {c : Call} {fo : Operand} (ho : o.op = .call c) (hc : c.callee = .value fo) : Silent (callH X (some ds) o) := by
  intro f b b'
  unfold callH
  simp only [ho, hc]
  rw [evC_cong (x := fo) (f := f) (f' := f) (b := b) (b' := b') fun _ _ => rfl, evAll_cong (f := f) (f' := f) (b := b) (b' := b') fun _ _ => rfl]
  split
  · rename_i fc as h1 h2
    unfold callF
    split
    · rename_i g caps
      generalize hall : as ++ caps.map (fun c => AV.c (.ptr c.1 c.2 none)) = all
      generalize hnames : namesIn (cellsAll all) = names
      cases names with
      | cons n r => exact ⟨rfl, fun v c e => by cases e⟩
      | nil =>
        simp only [List.isEmpty_nil, Bool.not_true, Bool.and_false, cond_false, boxesOf, Option.isSome_some]
        cases handAll [] all with
        | none => exact ⟨rfl, fun v c e => by cases e⟩
        | some as' =>
          simp only
          cases hpre : X.pre g as' []
          · exact ⟨rfl, fun v c e => by cases e⟩
          simp only [cond_true]
          rw [CallK.nat, CallK.nat _ (fun ro => some (AV.map (adC (o.dst.getD 0)) ro.1, putBoxes b' [] ro.2))]
          cases (X.call g as' []).go some with
          | none => exact ⟨rfl, fun v c e => by cases e⟩
          | some p =>
            obtain ⟨r, outs⟩ := p
            refine ⟨rfl, fun v c e => ?_⟩
            simp only [putBoxes, Option.bind_some, Option.some.injEq, Prod.mk.injEq] at e
            exact e.2.symm
    · exact ⟨rfl, fun v c e => by cases e⟩
  · exact ⟨rfl, fun v c e => by cases e⟩
/-- Each kind's form. -/
theorem forms (q : Option (List Nat)) (o : Oper) : (kindOf o.op = .pure → ∃ H, Form X ops q o H ∧ Silent H) ∧ (kindOf o.op = .load → ∃ H, Form X ops q o H ∧ Reads H) ∧ (kindOf o.op = .mem → ∃ H, Form X ops q o H) ∧
    (kindOf o.op = .call → ∃ H, Form X ops q o H ∧ (q.isSome = true → Silent H)) := by
  refine ⟨fun h => ⟨_, form_val (.inl h), silent_step (silent_val h)⟩, fun h => ⟨_, form_val (.inr h), reads_step reads_val⟩, fun h => ?_, fun h => ?_⟩
  · cases ho : o.op <;> rw [ho] at h <;> simp only [kindOf] at h <;> first | (cases h; done) | skip
    · exact ⟨_, form_store ho⟩
    · split at h <;> first | (cases h; done) | (split at h <;> cases h)
  · cases ho : o.op <;> rw [ho] at h <;> simp only [kindOf] at h <;> first | (cases h; done) | skip
    rename_i c
    cases hc : c.callee with
    | value f =>
      refine ⟨_, form_call ho hc, fun hq => ?_⟩
      obtain ⟨ds, rfl⟩ := Option.isSome_iff_exists.1 hq
      exact silent_step (silent_call ho hc)
    | invoke r m => rw [hc] at h; cases h
    | builtin b => rw [hc] at h; cases b <;> cases h
/-! ### append -/
def appV (X : Ctx) (q : Option (List Nat)) (o : Oper) (f : TM) : Option (Nat × DV) :=
  match o.op with
  | .call c => match c.args.toList, c.argTypes.toList with
    | [x, y], [T, U] => match ev X ⟨f, fun _ => none⟩ (o.dst.getD 0) T x, ev X ⟨f, fun _ => none⟩ 0 U y with
      | some x, some y => match X.ty U with
        | some ui => bif rowKind ui.desc then appendF X T x y fun t z => bif apartQ q t then some (t, z) else none else none
        | none => none
      | _, _ => none
    | _, _ => none
  | _ => none
theorem appV_eq {q : Option (List Nat)} {c : Call} (ho : o.op = .call c) (hc : c.callee = .builtin .append) (s : St) : exec X q o s some = (appV X q o s.tm).map fun p => (s.map (CV.unfl p.1)).put o.dst (.c (.own p.1 p.2)) := by
  obtain ⟨f, b⟩ := s
  unfold exec appV
  simp only [ho, hc]
  rcases c.args.toList with _ | ⟨x, _ | ⟨y, _ | ⟨w', r⟩⟩⟩ <;> rcases c.argTypes.toList with _ | ⟨T, _ | ⟨U, _ | ⟨w2, r2⟩⟩⟩ <;> first | rfl | skip
  · simp only
    rw [ev_cong (x := x) (f := f) (f' := f) (b := b) (b' := fun _ => none) fun _ _ => rfl, ev_cong (x := y) (f := f) (f' := f) (b := b) (b' := fun _ => none) fun _ _ => rfl]
    cases ev X ⟨f, fun _ => none⟩ (o.dst.getD 0) T x with
    | none => rfl
    | some xv =>
      cases ev X ⟨f, fun _ => none⟩ 0 U y with
      | none => rfl
      | some yv =>
        simp only
        cases X.ty U with
        | none => rfl
        | some ui =>
          simp only
          cases rowKind ui.desc
          · rfl
          · simp only [cond_true]
            rw [appendF_nat, appendF_nat (K := fun t z => bif apartQ q t then some (t, z) else none)]
            cases appendF X T xv yv (fun a b => some (a, b)) with
            | none => rfl
            | some p =>
              simp only [Option.bind_some]
              cases apartQ q p.1 <;> rfl
theorem appV_cong {q : Option (List Nat)} {c : Call} (ho : o.op = .call c) (hc : c.callee = .builtin .append) {f f' : TM} (h : look o.op f f') : appV X q o f = appV X q o f' := by
  unfold look at h
  rw [ho] at h
  simp only [Op.operands, Call.operands, hc] at h
  unfold appV
  simp only [ho]
  split
  · rename_i x y T U hx _
    have hm : ∀ z, z ∈ [x, y] → ∀ t, z = .tmp t → f t = f' t := fun z hz t e => h t (by
      simp only [Array.mem_append]
      right
      rw [← Array.mem_toList_iff, hx, ← e]; exact hz)
    rw [ev_cong (x := x) (f := f) (f' := f') (b := fun _ => none) (b' := fun _ => none) (hm x (by simp)), ev_cong (x := y) (f := f) (f' := f') (b := fun _ => none) (b' := fun _ => none) (hm y (by simp))]
  · rfl
theorem appV_apart {q : Option (List Nat)} {f : TM} {t : Nat} {z : DV} (h : appV X q o f = some (t, z)) : apartQ q t = true := by
  unfold appV at h
  split at h
  case h_2 => cases h
  split at h
  case h_2 => cases h
  split at h
  case h_2 => cases h
  split at h
  case h_2 => cases h
  obtain ⟨_, h⟩ := b_true h
  rw [appendF_nat] at h
  obtain ⟨p, _, h⟩ := Option.bind_eq_some_iff.1 h
  obtain ⟨h1, h⟩ := b_true h
  simp only [Option.some.injEq, Prod.mk.injEq] at h
  rw [← h.1]; exact h1
/-- An append, with what guards it. -/
def appS (X : Ctx) (ops : Array Oper) (q : Option (List Nat)) (o : Oper) (f : TM) : Option (Option (Nat × DV)) :=
  bif dstOk X.n o.dst then
    match o.guard with
    | none => (appV X q o f).map some
    | some (j, want) => (toldT ops f j want).bind fun c => bif c then (appV X q o f).map some else some none
  else none
def appDo (s : St) (d : Option Nat) : Option (Nat × DV) → St
  | none => s.put d (.one false [.un])
  | some (t, z) => (s.map (CV.unfl t)).put d (.c (.own t z))
theorem appS_eq {q : Option (List Nat)} {c : Call} (ho : o.op = .call c) (hc : c.callee = .builtin .append) (s : St) : step1 X ops q o s some = (appS X ops q o s.tm).map (appDo s o.dst) := by
  unfold step1 appS
  cases dstOk X.n o.dst
  · rfl
  · simp only [cond_true]
    cases o.guard with
    | none =>
      simp only
      rw [appV_eq ho hc]
      cases appV X q o s.tm <;> rfl
    | some p =>
      obtain ⟨j, want⟩ := p
      simp only
      rw [told_nat, told_eq]
      cases toldT ops s.tm j want with
      | none => rfl
      | some k =>
        cases k
        · rfl
        · simp only [Option.bind_some, cond_true]
          rw [appV_eq ho hc]
          cases appV X q o s.tm <;> rfl
theorem toldT_cong {f f' : TM} {j : Nat} {want : Bool} (hg : o.guard = some (j, want)) (h : ∀ t ∈ o.looksAt ops, f t = f' t) : toldT ops f j want = toldT ops f' j want := by
  unfold toldT told
  split
  · rename_i oj hoj
    split
    · rename_i t ht
      have := h t (by
        simp only [Oper.looksAt, hg]
        refine List.mem_append_right _ ?_
        simp [hoj, ht])
      simp only [this]
    · rfl
  · rfl
theorem appS_cong {q : Option (List Nat)} {c : Call} (ho : o.op = .call c) (hc : c.callee = .builtin .append) {f f' : TM} (h : ∀ t ∈ o.looksAt ops, f t = f' t) : appS X ops q o f = appS X ops q o f' := by
  have hl : look o.op f f' := fun t ht => h t (List.mem_append_left _ (List.mem_filterMap.2 ⟨.tmp t, by simpa using ht, rfl⟩))
  unfold appS
  rw [appV_cong ho hc hl]
  cases hg : o.guard with
  | none => rfl
  | some p =>
    obtain ⟨j, want⟩ := p
    simp only
    rw [toldT_cong hg h]
theorem appS_apart {q : Option (List Nat)} {f : TM} {t : Nat} {z : DV} (h : appS X ops q o f = some (some (t, z))) : apartQ q t = true := by
  unfold appS at h
  obtain ⟨_, h⟩ := b_true h
  split at h
  · obtain ⟨p, hp, h⟩ := Option.map_eq_some_iff.1 h
    obtain rfl := Option.some.inj h
    exact appV_apart hp
  · obtain ⟨k, _, h⟩ := Option.bind_eq_some_iff.1 h
    cases k
    · cases h
    · obtain ⟨p, hp, h⟩ := Option.map_eq_some_iff.1 h
      obtain rfl := Option.some.inj h
      exact appV_apart hp
theorem put_map (s : St) (t d : Nat) (v : AV) : (s.put (some d) v).map (CV.unfl t) = (s.map (CV.unfl t)).put (some d) (v.map (CV.unfl t)) := by
  unfold St.put St.map
  simp only
  congr 1
  funext k
  by_cases e : k = d
  · subst e; rw [upd_same, upd_same]
  · rw [upd_ne _ _ e, upd_ne _ _ e]
theorem toldT_eqv (s : St) (t j : Nat) (want : Bool) : toldT ops (s.map (CV.unfl t)).tm j want = toldT ops s.tm j want := by
  unfold toldT told
  split
  · split
    · rename_i k _
      simp only [map_tm]
      cases s.tm k with
      | tup vs => rfl
      | one a cs =>
        cases a with
        | true => rfl
        | false =>
          cases cs with
          | nil => rfl
          | cons c r =>
            cases r with
            | nil =>
              cases c with
              | own t' x => cases x <;> simp only [AV.map, List.map_cons, List.map_nil, CV.unfl] <;> first | rfl | (cases Nat.beq t' t <;> rfl)
              | _ => rfl
            | cons c' r => cases c <;> first | rfl | (rename_i t' x; cases x <;> simp only [AV.map, List.map_cons, CV.unfl] <;> first | rfl | (cases Nat.beq t' t <;> rfl))
    · rfl
  · rfl
theorem step_eqv {q : Option (List Nat)} (hk : kindOf o.op = .pure ∨ kindOf o.op = .load) {d t : Nat} (hd : o.dst = some d) (ht : t / 64 ≠ d) (s : St) : step1 X ops q o (s.map (CV.unfl t)) some = (step1 X ops q o s some).map (St.map (CV.unfl t)) := by
  have hex : exec X q o (s.map (CV.unfl t)) some = (exec X q o s some).map (St.map (CV.unfl t)) := by
    rw [exec_as_val hk, exec_as_val hk, valF_nat, valF_nat (K := fun v => some (s.put o.dst v)), valF_eqv hd ht]
    cases valF X o s some with
    | none => rfl
    | some v => simp only [Option.map_some, Option.bind_some, hd, put_map]
  unfold step1
  cases dstOk X.n o.dst
  · rfl
  · simp only [cond_true]
    cases o.guard with
    | none => exact hex
    | some p =>
      obtain ⟨j, want⟩ := p
      simp only
      rw [told_nat, told_nat (K := fun b => bif b then exec X q o s some else some (s.put o.dst (.one false [.un]))), told_eq, told_eq, toldT_eqv]
      cases toldT ops s.tm j want with
      | none => rfl
      | some k =>
        cases k
        · simp only [Option.bind_some, cond_false, Option.map_some, hd, put_map]
          rfl
        · exact hex
theorem val_put {q : Option (List Nat)} (hk : kindOf o.op = .pure ∨ kindOf o.op = .load) {s s' : St} (e : step1 X ops q o s some = some s') : ∃ v, s' = s.put o.dst v ∧ ∀ r : St, r.bx = s.bx → (∀ t ∈ o.looksAt ops, r.tm t = s.tm t) → step1 X ops q o r some = some (r.put o.dst v) := by
  have F := form_val (X := X) (ops := ops) (o := o) (q := q) hk
  rw [F.eq] at e
  obtain ⟨⟨v, c⟩, h1, rfl⟩ := Option.map_eq_some_iff.1 e
  have hc : c = s.bx := reads_step reads_val _ _ _ _ h1
  subst hc
  refine ⟨v, rfl, fun r hb ht => ?_⟩
  rw [F.eq, hb, F.cong _ _ _ ht, h1]
  simp only [Option.map_some, ← hb]
theorem dia_app_val {qa qb : Option (List Nat)} {a b : Oper} {c : Call} (ho : a.op = .call c) (hc : c.callee = .builtin .append) (hk : kindOf b.op = .pure ∨ kindOf b.op = .load) {d : Nat} (hd : b.dst = some d) (hq : ∀ t, apartQ qa t = true → t / 64 ≠ d) (hap : a.apart ops b = true) : Dia X ops qa a qb b := by
  obtain ⟨p1, p2, p3⟩ := Oper.apart_spec hap
  intro s s1 s2 e1 e2
  rw [appS_eq ho hc] at e1
  obtain ⟨r, hr, rfl⟩ := Option.map_eq_some_iff.1 e1
  have hA : ∀ v : AV, appS X ops qa a (s.put b.dst v).tm = some r := fun v => by
    rw [← hr]
    refine appS_cong ho hc fun t ht => ?_
    rw [put_eq]; exact putT_look (fun x hx => p3 x hx) t ht
  cases r with
  | none =>
    obtain ⟨v, hv, hall⟩ := val_put hk e2
    subst hv
    refine ⟨s.put b.dst v, hall s rfl (fun t ht => ?_), ?_⟩
    · simp only [appDo, put_eq]; exact (putT_look (fun x hx => p1 x hx) t ht).symm
    · rw [appS_eq ho hc, hA]
      simp only [Option.map_some, appDo, put_eq, putT_comm s.tm (d := a.dst) (e := b.dst) p2]
  | some p =>
    obtain ⟨t, z⟩ := p
    have htd := hq t (appS_apart hr)
    obtain ⟨v, hv, hall⟩ := val_put hk e2
    subst hv
    have h1 := hall (s.map (CV.unfl t)) rfl (fun k hk' => by
      simp only [appDo, put_eq]; exact (putT_look (fun x hx => p1 x hx) k hk').symm)
    rw [step_eqv hk hd htd] at h1
    obtain ⟨sb, h2, h3⟩ := Option.map_eq_some_iff.1 h1
    obtain ⟨v', hv', _⟩ := val_put hk h2
    subst hv'
    rw [hd, put_map] at h3
    refine ⟨_, h2, ?_⟩
    rw [appS_eq ho hc, hA]
    simp only [Option.map_some, appDo, hd, put_map]
    congr 1
    have h4 : (s.map (CV.unfl t)).put (some d) (v'.map (CV.unfl t)) = (s.map (CV.unfl t)).put (some d) v := h3
    rw [h4, put_eq, put_eq, put_eq, put_eq]
    have := putT_comm (s.map (CV.unfl t)).tm (d := a.dst) (e := some d) (fun x hx => by rw [← hd]; exact p2 x hx) (.c (.own t z)) v
    simp only [this]
theorem dia_val_app {qa qb : Option (List Nat)} {a b : Oper} {c : Call} (ho : b.op = .call c) (hc : c.callee = .builtin .append) (hk : kindOf a.op = .pure ∨ kindOf a.op = .load) {d : Nat} (hd : a.dst = some d) (hq : ∀ t, apartQ qb t = true → t / 64 ≠ d) (hap : a.apart ops b = true) : Dia X ops qa a qb b := by
  obtain ⟨p1, p2, p3⟩ := Oper.apart_spec hap
  intro s s1 s2 e1 e2
  obtain ⟨v, hv, hall⟩ := val_put hk e1
  subst hv
  rw [appS_eq ho hc] at e2
  obtain ⟨r, hr, rfl⟩ := Option.map_eq_some_iff.1 e2
  have hA : appS X ops qb b s.tm = some r := by
    rw [← hr]
    refine appS_cong ho hc fun t ht => ?_
    rw [put_eq]; exact (putT_look (fun x hx => p1 x hx) t ht).symm
  refine ⟨appDo s b.dst r, by rw [appS_eq ho hc, hA]; rfl, ?_⟩
  cases r with
  | none =>
    rw [hall (appDo s b.dst none) rfl (fun t ht => by simp only [appDo, put_eq]; exact putT_look (fun x hx => p3 x hx) t ht)]
    simp only [appDo, put_eq, putT_comm s.tm (d := a.dst) (e := b.dst) p2]
  | some p =>
    obtain ⟨t, z⟩ := p
    have htd := hq t (appS_apart hr)
    have h1 := step_eqv (X := X) (ops := ops) (q := qa) hk hd htd s
    rw [e1] at h1
    simp only [Option.map_some, hd, put_map] at h1
    obtain ⟨v2, hv2, hall2⟩ := val_put hk h1
    rw [hd] at hv2 hall2
    rw [hall2 (appDo s b.dst (some (t, z))) rfl (fun k hk' => by simp only [appDo, put_eq]; exact putT_look (fun x hx => p3 x hx) k hk')]
    congr 1
    simp only [appDo, hd, put_map]
    rw [hv2]
    rw [put_eq, put_eq, put_eq, put_eq]
    have := putT_comm (s.map (CV.unfl t)).tm (d := some d) (e := b.dst) (fun x hx => by rw [← hd] at hx; exact p2 x hx) v2 (.c (.own t z))
    simp only [this]
theorem app_call {op : Op} (h : kindOf op = .app) : ∃ c, op = .call c ∧ c.callee = .builtin .append := by
  cases op <;> simp only [kindOf] at h <;> first | (cases h; done) | skip
  rename_i c
  refine ⟨c, rfl, ?_⟩
  cases hc : c.callee with
  | value f => rw [hc] at h; cases h
  | invoke r m => rw [hc] at h; cases h
  | builtin b => rw [hc] at h; cases b <;> first | rfl | cases h
theorem dia_free {qa qb : Option (List Nat)} {a b : Oper} (h : free ops a b = true ∨ freeM ops a b = true) (hqa : kindOf a.op = .call → kindOf b.op ≠ .pure → qa.isSome = true) (hqb : kindOf b.op = .call → kindOf a.op ≠ .pure → qb.isSome = true)
    (haa : kindOf a.op = .app → ∀ d, b.dst = some d → ∀ t, apartQ qa t = true → t / 64 ≠ d) (hbb : kindOf b.op = .app → ∀ d, a.dst = some d → ∀ t, apartQ qb t = true → t / 64 ≠ d) : Dia X ops qa a qb b := by
  obtain ⟨a1, a2, a3, a4⟩ := forms (X := X) (ops := ops) qa a
  obtain ⟨b1, b2, b3, b4⟩ := forms (X := X) (ops := ops) qb b
  have hap : a.apart ops b = true := by
    rcases h with h | h
    · unfold free at h; rw [Bool.and_eq_true] at h; exact h.1
    · unfold freeM at h; rw [Bool.and_eq_true] at h; exact h.1
  cases ka : kindOf a.op <;> cases kb : kindOf b.op <;> simp only [free, freeM, ka, kb, Bool.and_false, Bool.and_true, Bool.false_eq_true, or_false, false_or, or_self] at h <;> first | (cases h; done) | skip
  case pure.pure => obtain ⟨H, f, s⟩ := a1 ka; obtain ⟨H', f', s'⟩ := b1 kb; exact dia_of f f' hap (.inl s)
  case pure.load => obtain ⟨H, f, s⟩ := a1 ka; obtain ⟨H', f', s'⟩ := b2 kb; exact dia_of f f' hap (.inl s)
  case pure.call => obtain ⟨H, f, s⟩ := a1 ka; obtain ⟨H', f', s'⟩ := b4 kb; exact dia_of f f' hap (.inl s)
  case pure.mem => obtain ⟨H, f, s⟩ := a1 ka; obtain ⟨H', f'⟩ := b3 kb; exact dia_of f f' hap (.inl s)
  case load.pure => obtain ⟨H, f, s⟩ := a2 ka; obtain ⟨H', f', s'⟩ := b1 kb; exact dia_of f f' hap (.inr (.inl s'))
  case load.load => obtain ⟨H, f, s⟩ := a2 ka; obtain ⟨H', f', s'⟩ := b2 kb; exact dia_of f f' hap (.inr (.inr ⟨s, s'⟩))
  case load.call => obtain ⟨H, f, s⟩ := a2 ka; obtain ⟨H', f', s'⟩ := b4 kb; exact dia_of f f' hap (.inr (.inl (s' (hqb kb (by rw [ka]; simp)))))
  case call.pure => obtain ⟨H, f, s⟩ := a4 ka; obtain ⟨H', f', s'⟩ := b1 kb; exact dia_of f f' hap (.inr (.inl s'))
  case call.load => obtain ⟨H, f, s⟩ := a4 ka; obtain ⟨H', f', s'⟩ := b2 kb; exact dia_of f f' hap (.inl (s (hqa ka (by rw [kb]; simp))))
  case call.call => obtain ⟨H, f, s⟩ := a4 ka; obtain ⟨H', f', s'⟩ := b4 kb; exact dia_of f f' hap (.inl (s (hqa ka (by rw [kb]; simp))))
  case call.mem => obtain ⟨H, f, s⟩ := a4 ka; obtain ⟨H', f'⟩ := b3 kb; exact dia_of f f' hap (.inl (s (hqa ka (by rw [kb]; simp))))
  case mem.pure => obtain ⟨H, f⟩ := a3 ka; obtain ⟨H', f', s'⟩ := b1 kb; exact dia_of f f' hap (.inr (.inl s'))
  case pure.app =>
    rw [Bool.and_eq_true] at h
    obtain ⟨d, hd⟩ := Option.isSome_iff_exists.1 h.2
    obtain ⟨c, ho, hc⟩ := app_call kb
    exact dia_val_app ho hc (.inl ka) hd (hbb kb d hd) hap
  case load.app =>
    rw [Bool.and_eq_true] at h
    obtain ⟨d, hd⟩ := Option.isSome_iff_exists.1 h.2
    obtain ⟨c, ho, hc⟩ := app_call kb
    exact dia_val_app ho hc (.inr ka) hd (hbb kb d hd) hap
  case app.pure =>
    rw [Bool.and_eq_true] at h
    obtain ⟨d, hd⟩ := Option.isSome_iff_exists.1 h.2
    obtain ⟨c, ho, hc⟩ := app_call ka
    exact dia_app_val ho hc (.inl kb) hd (haa ka d hd) hap
  case app.load =>
    rw [Bool.and_eq_true] at h
    obtain ⟨d, hd⟩ := Option.isSome_iff_exists.1 h.2
    obtain ⟨c, ho, hc⟩ := app_call ka
    exact dia_app_val ho hc (.inr kb) hd (haa ka d hd) hap
  case mem.call => obtain ⟨H, f⟩ := a3 ka; obtain ⟨H', f', s'⟩ := b4 kb; exact dia_of f f' hap (.inr (.inl (s' (hqb kb (by rw [ka]; simp)))))
/-! ### Any order -/
def stepI (X : Ctx) (ops : Array Oper) (qs : Nat → Option (List Nat)) (i : Nat) (s : St) : Option St :=
  match ops[i]? with
  | some o => step1 X ops (qs i) o s some
  | none => none
def runL (X : Ctx) (ops : Array Oper) (qs : Nat → Option (List Nat)) : List Nat → St → Option St
  | [], s => some s
  | i :: r, s => (stepI X ops qs i s).bind (runL X ops qs r)
def DiaI (X : Ctx) (ops : Array Oper) (qs : Nat → Option (List Nat)) (p i : Nat) : Prop :=
  ∀ s s1 s2, stepI X ops qs p s = some s1 → stepI X ops qs i s1 = some s2 → ∃ t, stepI X ops qs i s = some t ∧ stepI X ops qs p t = some s2
theorem runL_front {qs : Nat → Option (List Nat)} : ∀ (pre : List Nat) {i : Nat} {post : List Nat} {s s' : St}, (∀ p ∈ pre, DiaI X ops qs p i) → runL X ops qs (pre ++ i :: post) s = some s' → ∃ s1, stepI X ops qs i s = some s1 ∧ runL X ops qs (pre ++ post) s1 = some s'
  | [], i, post, s, s', _, h => by
    simp only [List.nil_append, runL] at h
    obtain ⟨s1, h1, h2⟩ := Option.bind_eq_some_iff.1 h
    exact ⟨s1, h1, h2⟩
  | p :: pre, i, post, s, s', hd, h => by
    simp only [List.cons_append, runL] at h
    obtain ⟨s1, h1, h2⟩ := Option.bind_eq_some_iff.1 h
    obtain ⟨s2, h3, h4⟩ := runL_front pre (fun q hq => hd q (by simp [hq])) h2
    obtain ⟨t, h5, h6⟩ := hd p (by simp) s s1 s2 h1 h3
    exact ⟨t, h5, by simp only [List.cons_append, runL, h6, Option.bind_some]; exact h4⟩
/-! The orders that the edges allow. -/
theorem aheads_len (ops : Array Oper) : ∀ n, (aheads ops n).length = n
  | 0 => rfl
  | n + 1 => by simp [aheads, aheads_len ops n]
theorem aheads_stable (ops : Array Oper) {i : Nat} : ∀ {n m : Nat}, i < n → n ≤ m → (aheads ops m).getD i [] = (aheads ops n).getD i []
  | n, 0, h, h' => by omega
  | n, m + 1, h, h' => by
    by_cases e : n = m + 1
    · subst e; rfl
    · rw [← aheads_stable ops (n := n) (m := m) h (by omega)]
      simp only [aheads, List.getD_eq_getElem?_getD]
      rw [List.getElem?_append_left (by rw [aheads_len]; omega)]
def upTo (l : List (List Nat)) : List Nat → List Nat → List Nat
  | [], acc => acc
  | j :: r, acc => upTo l r (acc ++ (j :: l.getD j []))
theorem foldl_upTo (l : List (List Nat)) : ∀ (js acc : List Nat), js.foldl (fun acc j => acc ++ (j :: l.getD j [])) acc = upTo l js acc
  | [], _ => rfl
  | j :: r, acc => foldl_upTo l r _
theorem mem_upTo (l : List (List Nat)) {p : Nat} : ∀ (js acc : List Nat), p ∈ upTo l js acc → p ∈ acc ∨ ∃ j ∈ js, p = j ∨ p ∈ l.getD j []
  | [], acc, h => .inl h
  | j :: r, acc, h => by
    rcases mem_upTo l r _ h with h | ⟨k, hk, h⟩
    · rcases List.mem_append.1 h with h | h
      · exact .inl h
      · rcases List.mem_cons.1 h with h | h
        · exact .inr ⟨j, by simp, .inl h⟩
        · exact .inr ⟨j, by simp, .inr h⟩
    · exact .inr ⟨k, by simp [hk], h⟩
theorem ahead_mem (ops : Array Oper) {n i p : Nat} (hi : i < n) (hlt : ∀ k, k < n → ∀ j ∈ before1 ops k, j < k) (h : p ∈ (aheads ops n).getD i []) : ∃ j ∈ before1 ops i, p = j ∨ p ∈ (aheads ops n).getD j [] := by
  rw [aheads_stable ops (n := i + 1) (m := n) (by omega) (by omega)] at h
  simp only [aheads, List.getD_eq_getElem?_getD] at h
  rw [List.getElem?_append_right (by rw [aheads_len]; exact Nat.le_refl _), aheads_len, Nat.sub_self] at h
  simp only [List.getElem?_cons_zero, Option.getD_some] at h
  have h' : p ∈ upTo (aheads ops i) (before1 ops i) [] := by
    rw [← foldl_upTo]
    simpa [List.getD_eq_getElem?_getD] using h
  rcases mem_upTo _ _ _ h' with h | ⟨j, hj, h⟩
  · cases h
  · refine ⟨j, hj, h.imp id fun h => ?_⟩
    have hji := hlt i hi j hj
    rwa [aheads_stable ops (n := i) (m := n) hji (by omega)]
theorem listed_ahead (ops : Array Oper) {n : Nat} (hlt : ∀ k, k < n → ∀ j ∈ before1 ops k, j < k) {listed : Nat → Prop} (hcl : ∀ k, k < n → listed k → ∀ j ∈ before1 ops k, listed j) :
    ∀ (i : Nat), i < n → (∀ j ∈ before1 ops i, listed j) → ∀ p, p ∈ (aheads ops n).getD i [] → listed p := by
  intro i
  induction i using Nat.strongRecOn with
  | _ i ih =>
    intro hi hd p hp
    obtain ⟨j, hj, h⟩ := ahead_mem ops hi hlt hp
    rcases h with rfl | h
    · exact hd p hj
    · have hji := hlt i hi j hj
      exact ih j hji (by omega) (hcl j (by omega) (hd j hj)) p h
theorem allPairs_spec (ops : Array Oper) (ah : List (List Nat)) : ∀ {n : Nat}, allPairs ops ah n = true → (∀ k, k < n → ∀ j ∈ before1 ops k, j < k) ∧
    ∀ k, k < n → ∀ i, i < k → (ah.getD k []).contains i = true ∨ ∃ a b, ops[i]? = some a ∧ ops[k]? = some b ∧ (free ops a b = true ∨ freeM ops a b = true)
  | 0, _ => ⟨fun k h => by omega, fun k h => by omega⟩
  | n + 1, h => by
    simp only [allPairs, Bool.and_eq_true] at h
    obtain ⟨⟨h1, h2⟩, h3⟩ := h
    obtain ⟨ih1, ih2⟩ := allPairs_spec ops ah h1
    refine ⟨fun k hk j hj => ?_, fun k hk i hi => ?_⟩
    · by_cases e : k = n
      · subst e
        have := List.all_eq_true.1 h2 j hj
        exact Nat.lt_of_succ_le (by simpa [Nat.blt] using this)
      · exact ih1 k (by omega) j hj
    · by_cases e : k = n
      · subst e
        have := List.all_eq_true.1 h3 i (List.mem_range.2 hi)
        simp only [Bool.or_eq_true] at this
        refine this.imp id fun h => ?_
        split at h
        · rename_i a b ha hb
          simp only [Bool.or_eq_true] at h
          exact ⟨a, b, ha, hb, h⟩
        · cases h
      · exact ih2 k (by omega) i hi
theorem before1_spec (ops : Array Oper) {i j : Nat} : j ∈ before1 ops i ↔ ∃ o e, ops[i]? = some o ∧ e ∈ o.after.toList ∧ Region.binds .any e = true ∧ e.on = j := by
  unfold before1
  split
  · rename_i o ho
    simp only [List.mem_filterMap]
    constructor
    · rintro ⟨e, he, h⟩
      split at h
      · rename_i hb
        exact ⟨o, e, ho, he, hb, Option.some.inj h⟩
      · cases h
    · rintro ⟨o', e, h1, he, hb, rfl⟩
      rw [ho] at h1
      obtain rfl := Option.some.inj h1
      exact ⟨e, he, by rw [if_pos hb]⟩
  · rename_i ho
    simp [ho]
def todo (n : Nat) (listed : Array Bool) : List Nat := (List.range n).filter fun i => !listed.getD i true
theorem todo_split {n : Nat} {listed : Array Bool} {i : Nat} (hs : listed.size = n) (hi : i ∈ todo n listed) : ∃ pre post, todo n listed = pre ++ i :: post ∧ todo n (listed.setIfInBounds i true) = pre ++ post ∧ ∀ p ∈ pre, p < i ∧ p ∈ todo n listed := by
  have hin : i < n := by
    have := (List.mem_filter.1 hi).1
    exact List.mem_range.1 this
  have hr : List.range n = List.range i ++ i :: (List.range' (i + 1) (n - i - 1)) := by
    rw [List.range_eq_range', List.range_eq_range']
    have : n = i + (1 + (n - i - 1)) := by omega
    conv => lhs; rw [this]
    rw [List.range'_append_1.symm, Nat.add_comm 1, List.range'_succ]
    simp
  have hl := (List.mem_filter.1 hi).2
  refine ⟨(List.range i).filter (fun i => !listed.getD i true), (List.range' (i + 1) (n - i - 1)).filter (fun i => !listed.getD i true), ?_, ?_, ?_⟩
  · unfold todo
    rw [hr, List.filter_append, List.filter_cons, if_pos hl]
  · unfold todo
    have hset : ∀ k, k ≠ i → (listed.setIfInBounds i true).getD k true = listed.getD k true := by
      intro k hk
      rw [Array.getD_eq_getD_getElem?, Array.getD_eq_getD_getElem?, Array.getElem?_setIfInBounds_ne (Ne.symm hk)]
    rw [hr, List.filter_append, List.filter_cons, if_neg (by
      rw [Array.getD_eq_getD_getElem?, Array.getElem?_setIfInBounds_self_of_lt (by omega)]
      simp)]
    congr 1
    · refine List.filter_congr fun k hk => ?_
      rw [hset k (by have := List.mem_range.1 hk; omega)]
    · refine List.filter_congr fun k hk => ?_
      rw [hset k (by have := (List.mem_range'_1.1 hk).1; omega)]
  · intro p hp
    obtain ⟨h1, h2⟩ := List.mem_filter.1 hp
    have := List.mem_range.1 h1
    exact ⟨this, List.mem_filter.2 ⟨List.mem_range.2 (by omega), h2⟩⟩
theorem quiet_of {ah : List (List Nat)} {i j : Nat} {o : Oper} (hij : i ≠ j) (hj : ops[j]? = some o) (h1 : (ah.getD i []).contains j = false) (h2 : (ah.getD j []).contains i = false) (hk : kindOf o.op ≠ .pure) : quietAt ops ah i = true := by
  unfold quietAt
  rw [List.any_eq_true]
  have hlt : j < ops.size := (Array.getElem?_eq_some_iff.1 hj).1
  refine ⟨j, List.mem_range.2 hlt, ?_⟩
  have hb : Nat.beq i j = false := by
    cases e : Nat.beq i j
    · rfl
    · exact absurd (beq_true e) hij
  rw [hb, h1, h2, hj]
  simp only [Bool.not_false, Bool.and_self]
theorem qAt_call {ah : List (List Nat)} {i : Nat} {o : Oper} (ho : ops[i]? = some o) (hq : quietAt ops ah i = true) : (qAt ops ah i).isSome = true := by
  unfold qAt
  rw [ho]
  simp only
  cases kindOf o.op <;> simp [hq]
theorem qAt_app {ah : List (List Nat)} {i j : Nat} {o o' : Oper} (ho : ops[i]? = some o) (hk : kindOf o.op = .app) (hj : ops[j]? = some o') (hij : j ≠ i) (h1 : (ah.getD i []).contains j = false) (h2 : (ah.getD j []).contains i = false) {d t : Nat} (hd : o'.dst = some d) (h : apartQ (qAt ops ah i) t = true) : t / 64 ≠ d := by
  unfold qAt at h
  rw [ho] at h
  simp only [hk, apartQ] at h
  have := List.all_eq_true.1 h d (List.mem_filterMap.2 ⟨(o', j), by
    rw [List.mk_mem_zipIdx_iff_getElem?]
    simpa using hj, by
    have hb : Nat.beq j i = false := by
      cases e : Nat.beq j i
      · rfl
      · exact absurd (beq_true e) hij
    simp only [hb, h1, h2, Bool.or_self, cond_false, hd]⟩)
  intro e
  rw [e] at this
  simp at this
theorem diaI_of {ah : List (List Nat)} (hah : allPairs ops ah ops.size = true) {p i : Nat} (hpi : p < i) (hi : i < ops.size) (hn : (ah.getD i []).contains p = false) (hn2 : (ah.getD p []).contains i = false) : DiaI X ops (qAt ops ah) p i := by
  obtain ⟨_, h2⟩ := allPairs_spec ops ah hah
  rcases h2 i hi p hpi with h | ⟨a, b, ha, hb, h⟩
  · rw [hn] at h; cases h
  · intro s s1 s2 e1 e2
    unfold stepI at e1 e2 ⊢
    rw [ha] at e1 ⊢
    rw [hb] at e2 ⊢
    exact dia_free h (fun _ hk => qAt_call ha (quiet_of (by omega) hb hn2 hn hk)) (fun _ hk => qAt_call hb (quiet_of (by omega) ha hn hn2 hk)) (fun hk d hd t ht => qAt_app ha hk hb (by omega) hn2 hn hd ht) (fun hk d hd t ht => qAt_app hb hk ha (by omega) hn hn2 hd ht) s s1 s2 e1 e2
theorem ahead_lt {n : Nat} (hlt : ∀ k, k < n → ∀ j ∈ before1 ops k, j < k) : ∀ (i : Nat), i < n → ∀ p, p ∈ (aheads ops n).getD i [] → p < i := by
  intro i
  induction i using Nat.strongRecOn with
  | _ i ih =>
    intro hi p hp
    obtain ⟨j, hj, h⟩ := ahead_mem ops hi hlt hp
    have hji := hlt i hi j hj
    rcases h with rfl | h
    · exact hji
    · exact Nat.lt_trans (ih j hji (by omega) p h) hji
theorem any_ok (hX : XOK P X) (hn : E.n = X.n) {Q : Exit → Act → World → Prop} {sf : St} (hah : allPairs ops (aheads ops ops.size) ops.size = true) (hQ : ∀ a' w' g', Rel E g' sf a' w' → Q .normal a' w') :
    ∀ (m : Nat) (listed : Array Bool) (s : St) (g : Gh) (a : Act) (w : World), listed.size = ops.size → (todo ops.size listed).length ≤ m → (∀ k, k < ops.size → listed.getD k false = true → ∀ j ∈ before1 ops k, listed.getD j false = true) →
      Rel E g s a w → runL X ops (qAt ops (aheads ops ops.size)) (todo ops.size listed) s = some sf → wpAny P .any ops Q m listed a w := by
  obtain ⟨hlt, _⟩ := allPairs_spec ops _ hah
  have ready_nil : ∀ (listed : Array Bool), listed.size = ops.size → Region.ready .any ops listed = [] → todo ops.size listed = [] := by
    intro listed hsz hr
    cases ht : todo ops.size listed with
    | nil => rfl
    | cons i rest =>
      exfalso
      have hi : i ∈ todo ops.size listed := by rw [ht]; simp
      have hin : i < ops.size := List.mem_range.1 (List.mem_filter.1 hi).1
      obtain ⟨pre, post, h1, _, h3⟩ := todo_split hsz hi
      have hpre : pre = [] := by
        cases pre with
        | nil => rfl
        | cons p r =>
          rw [ht] at h1
          have := (List.cons.inj h1).1
          have h4 := (h3 p (by simp)).1
          omega
      have : i ∈ Region.ready .any ops listed := by
        unfold Region.ready
        rw [List.mem_filter]
        refine ⟨List.mem_range.2 hin, ?_⟩
        rw [Bool.and_eq_true]
        refine ⟨(List.mem_filter.1 hi).2, ?_⟩
        rw [Array.getElem?_eq_getElem hin]
        simp only [Option.map_some, Option.getD_some]
        rw [Array.all_eq_true_iff_forall_mem]
        intro e he
        cases hb : Region.binds .any e
        · rfl
        · have hj := hlt i hin e.on ((before1_spec ops).2 ⟨ops[i], e, Array.getElem?_eq_getElem hin, by simpa using he, hb, rfl⟩)
          simp only [Bool.not_true, Bool.false_or]
          refine Classical.byContradiction fun hne => ?_
          have hmem : e.on ∈ todo ops.size listed := by
            refine List.mem_filter.2 ⟨List.mem_range.2 (by omega), ?_⟩
            rw [Array.getD_eq_getD_getElem?] at hne ⊢
            rw [Array.getElem?_eq_getElem (by omega)] at hne ⊢
            simpa using hne
          rw [h1, hpre] at hmem
          simp only [List.nil_append, List.mem_cons] at hmem
          rcases hmem with h | h
          · omega
          · -- behind i only greater ones stand
            have hpw : (todo ops.size listed).Pairwise (· < ·) := (List.pairwise_lt_range).filter _
            rw [h1, hpre] at hpw
            have := (List.pairwise_cons.1 hpw).1 _ h
            omega
      rw [hr] at this
      cases this
  intro m
  induction m with
  | zero =>
    intro listed s g a w hsz hl hcl hrel hrun
    have ht : todo ops.size listed = [] := List.eq_nil_of_length_eq_zero (by omega)
    rw [ht] at hrun
    obtain rfl := Option.some.inj hrun
    refine ⟨?_, hQ _ _ _ hrel⟩
    cases hr : Region.ready .any ops listed with
    | nil => rfl
    | cons i r =>
      exfalso
      have hi : i ∈ Region.ready .any ops listed := by rw [hr]; simp
      unfold Region.ready at hi
      obtain ⟨h1, h2⟩ := List.mem_filter.1 hi
      rw [Bool.and_eq_true] at h2
      have : i ∈ todo ops.size listed := List.mem_filter.2 ⟨h1, h2.1⟩
      rw [ht] at this
      cases this
  | succ m ih =>
    intro listed s g a w hsz hl hcl hrel hrun
    refine ⟨fun hr => ?_, fun i hi => ?_⟩
    · have ht := ready_nil listed hsz hr
      rw [ht] at hrun
      obtain rfl := Option.some.inj hrun
      exact hQ _ _ _ hrel
    · unfold Region.ready at hi
      obtain ⟨h1, h2⟩ := List.mem_filter.1 hi
      rw [Bool.and_eq_true] at h2
      have hin := List.mem_range.1 h1
      have hit : i ∈ todo ops.size listed := List.mem_filter.2 ⟨h1, h2.1⟩
      obtain ⟨pre, post, e1, e2, e3⟩ := todo_split hsz hit
      have hdeps : ∀ j ∈ before1 ops i, listed.getD j false = true := by
        intro j hj
        obtain ⟨o, e, ho, he, hb, rfl⟩ := (before1_spec ops).1 hj
        rw [ho] at h2
        have := (Array.all_eq_true_iff_forall_mem.1 h2.2) e (by simpa using he)
        rw [hb] at this
        simpa using this
      have hpre : ∀ p ∈ pre, DiaI X ops (qAt ops (aheads ops ops.size)) p i := by
        intro p hp
        obtain ⟨h4, h5⟩ := e3 p hp
        have hnl : ¬ listed.getD p false = true := by
          have h6 := (List.mem_filter.1 h5).2
          rw [Array.getD_eq_getD_getElem?] at h6 ⊢
          rw [Array.getElem?_eq_getElem (by omega)] at h6 ⊢
          simpa using h6
        refine diaI_of hah h4 hin ?_ ?_
        · cases hc : ((aheads ops ops.size).getD i []).contains p
          · rfl
          · exact absurd (listed_ahead ops hlt (listed := fun k => listed.getD k false = true) (fun k hk hl => hcl k hk hl) i hin hdeps p (by simpa using hc)) hnl
        · cases hc : ((aheads ops ops.size).getD p []).contains i
          · rfl
          · have := ahead_lt hlt p (by omega) i (by simpa using hc)
            omega
      rw [e1] at hrun
      obtain ⟨s1, h3, h4⟩ := runL_front pre hpre hrun
      have hopi : ops[i]? = some ops[i] := Array.getElem?_eq_getElem hin
      unfold stepI at h3
      rw [hopi] at h3
      have hset : ∀ k, k ≠ i → ∀ d, (listed.setIfInBounds i true).getD k d = listed.getD k d := by
        intro k hk d
        rw [Array.getD_eq_getD_getElem?, Array.getD_eq_getD_getElem?, Array.getElem?_setIfInBounds_ne (Ne.symm hk)]
      have hseti : (listed.setIfInBounds i true).getD i false = true := by
        rw [Array.getD_eq_getD_getElem?, Array.getElem?_setIfInBounds_self_of_lt (by omega)]; rfl
      have hnext : ∀ (a' : Act) (w' : World) (g' : Gh), Rel E g' s1 a' w' → wpAny P .any ops Q m (listed.setIfInBounds i true) a' w' := fun a' w' g' hr =>
        ih _ s1 g' a' w' (by simpa using hsz) (by
          rw [e2]
          rw [e1] at hl
          simp only [List.length_append, List.length_cons] at hl ⊢
          omega) (fun k hk hkl j hj => by
          by_cases e : j = i
          · subst e; exact hseti
          · rw [hset j e]
            by_cases e' : k = i
            · subst e'; exact hdeps j hj
            · rw [hset k e'] at hkl; exact hcl k hk hkl j hj) hr (by rw [e2]; exact h4)
      unfold wpOp
      rw [hopi]
      simp only
      rcases step1_ok hX hn hrel h3 with ⟨hw, hg⟩ | ⟨hw, g', hr⟩
      · rw [if_pos hw]
        exact .inl (hg _ _ hnext)
      · rw [if_neg (by rw [hw]; simp)]
        exact hnext _ _ g' hr
theorem runL_steps (qs : Nat → Option (List Nat)) : ∀ (l : List Oper) (k : Nat) (s : St), (∀ j, l[j]? = ops[k + j]?) → steps X ops ((l.zipIdx k).map fun p => (qs p.2, p.1)) s some = runL X ops qs (List.range' k l.length) s
  | [], k, s, _ => rfl
  | o :: l, k, s, h => by
    have h0 : ops[k]? = some o := by simpa using (h 0).symm
    simp only [List.zipIdx_cons, List.map_cons, steps, List.length_cons, List.range'_succ, runL]
    rw [step1_nat]
    have : stepI X ops qs k s = step1 X ops (qs k) o s some := by unfold stepI; rw [h0]
    rw [this]
    congr 1
    funext s'
    exact runL_steps qs l (k + 1) s' (fun j => by
      have := h (j + 1)
      rw [show k + (j + 1) = k + 1 + j by omega] at this
      simpa using this)
/-- A REGION. -/
theorem region_list_ok (hX : XOK P X) (hn : E.n = X.n) {R : Type} {Q : Exit → Act → World → Prop} {K : St → Option R} {r : R} (hQ : ∀ s' a' w' g', K s' = some r → Rel E g' s' a' w' → Q .normal a' w') {s : St} {g : Gh} {a : Act} {w : World} (h : Rel E g s a w)
    (e : regionF X ops false s K = some r) : wpList P ops Q ops.toList a w := by
  unfold regionF at e
  simp only [cond_false] at e
  cases hany : ops.toList.any (isBoxed X)
  case true =>
    rw [hany] at e
    exact stepsM_list hX hn hQ _ h e
  rw [hany] at e
  simp only [cond_false] at e
  rw [stepsR_eq] at e
  have := steps_list hX hn hQ _ h e
  rw [List.map_map] at this
  have hm : (ops.toList.map ((fun (p : Option (List Nat) × Oper) => p.2) ∘ fun o => (none, o))) = ops.toList := by
    induction ops.toList with
    | nil => rfl
    | cons a l ih => simp [ih]
  rw [hm] at this
  exact this
theorem region_any_ok (hX : XOK P X) (hn : E.n = X.n) {R : Type} {Q : Exit → Act → World → Prop} {K : St → Option R} {r : R} (hQ : ∀ s' a' w' g', K s' = some r → Rel E g' s' a' w' → Q .normal a' w') {s : St} {g : Gh} {a : Act} {w : World} (h : Rel E g s a w)
    (e : regionF X ops true s K = some r) : wpAny P .any ops Q ops.size (Array.replicate ops.size false) a { w with drawn := w.drawn + 1 } := by
  unfold regionF at e
  simp only [cond_true] at e
  obtain ⟨hah, e⟩ := b_true e
  rw [stepsR_eq, steps_nat] at e
  obtain ⟨sf, h1, h2⟩ := Option.bind_eq_some_iff.1 e
  rw [runL_steps (ops := ops) (X := X) (qAt ops (aheads ops ops.size)) ops.toList 0 s (by simp)] at h1
  have hst := h.stay (Stay.drew g w)
  have htodo : todo ops.size (Array.replicate ops.size false) = List.range' 0 ops.toList.length := by
    unfold todo
    rw [List.filter_eq_self.2, List.range_eq_range', Array.length_toList]
    intro k hk
    have := List.mem_range.1 hk
    rw [Array.getD_eq_getD_getElem?]
    simp [this]
  exact any_ok hX hn hah (fun a' w' g' hr => hQ sf a' w' g' h2 hr) ops.size _ s g a w.drew (by simp) (by rw [htodo]; simp) (fun k hk hl => by
    rw [Array.getD_eq_getD_getElem?] at hl
    simp [hk] at hl) hst (by rw [htodo]; exact h1)
end
end Go.Proofs.Ythmdefgepnkgiaa.Eng
