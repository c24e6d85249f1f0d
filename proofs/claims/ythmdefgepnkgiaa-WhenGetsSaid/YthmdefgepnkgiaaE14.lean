/- Operations that may change places. Conditions: each looks at none of what the other one tells. -/
import Derived.Test.YthmdefgepnkgiaaE13
namespace Go.Proofs.Ythmdefgepnkgiaa.Eng
open Go
section
variable {X : Ctx} {ops : Array Oper} {o : Oper} {f f' : TM} {b b' : BX}
def look (o : Op) (f f' : TM) : Prop := ∀ t, Operand.tmp t ∈ o.operands → f t = f' t
theorem ev_cong {d : Nat} {T : TypeId} {x : Operand} (h : ∀ t, x = .tmp t → f t = f' t) : ev X ⟨f, b⟩ d T x = ev X ⟨f', b'⟩ d T x := by
  cases x with
  | tmp t => simp only [ev, h t rfl]
  | const v =>
    cases v <;> first | rfl | skip
    rename_i a l c
    rcases a with _ | a <;> rcases l with _ | l <;> rcases c with _ | c <;> rfl
  | _ => rfl
theorem evC_cong {x : Operand} (h : ∀ t, x = .tmp t → f t = f' t) : evC ⟨f, b⟩ x = evC ⟨f', b'⟩ x := by
  cases x with
  | tmp t => simp only [evC, h t rfl]
  | const v => cases v <;> rfl
  | _ => rfl
theorem evI_cong {x : Operand} (h : ∀ t, x = .tmp t → f t = f' t) : evI ⟨f, b⟩ x = evI ⟨f', b'⟩ x := by unfold evI; rw [evC_cong (b := b) (b' := b') h]
theorem evB_cong {x : Operand} (h : ∀ t, x = .tmp t → f t = f' t) : evB ⟨f, b⟩ x = evB ⟨f', b'⟩ x := by unfold evB; rw [evC_cong (b := b) (b' := b') h]
theorem evO_cong {x : Option Operand} (h : ∀ t, x = some (.tmp t) → f t = f' t) : evO ⟨f, b⟩ x = evO ⟨f', b'⟩ x := by
  cases x with
  | none => rfl
  | some x => simp only [evO]; rw [evI_cong (b := b) (b' := b') fun t e => h t (by rw [e])]
theorem capsOf_cong : ∀ {xs : List Operand}, (∀ t, Operand.tmp t ∈ xs → f t = f' t) → capsOf ⟨f, b⟩ xs = capsOf ⟨f', b'⟩ xs
  | [], _ => rfl
  | x :: xs, h => by
    simp only [capsOf]
    rw [evC_cong (b := b) (b' := b') fun t e => h t (by rw [e]; simp), capsOf_cong fun t ht => h t (by simp [ht])]
theorem evAll_cong {d : Nat} : ∀ {xs : List Operand} {ts : List TypeId}, (∀ t, Operand.tmp t ∈ xs → f t = f' t) → evAll X ⟨f, b⟩ d xs ts = evAll X ⟨f', b'⟩ d xs ts
  | [], _, _ => rfl
  | x :: xs, ts, h => by
    simp only [evAll]
    rw [ev_cong (b := b) (b' := b') fun t e => h t (by rw [e]; simp), evAll_cong fun t ht => h t (by simp [ht])]
theorem partsOf_cong {T : TypeId} : ∀ {ps : List (Nat × Operand)} {j : Nat}, (∀ t, Operand.tmp t ∈ ps.map (·.2) → f t = f' t) → partsOf X ⟨f, b⟩ T j ps = partsOf X ⟨f', b'⟩ T j ps
  | [], _, _ => rfl
  | (i, x) :: ps, j, h => by
    simp only [partsOf]
    rw [ev_cong (b := b) (b' := b') fun t e => h t (by simp [e]), partsOf_cong fun t ht => h t (by simp [ht])]
theorem fillOf_cong {d : Nat} {i : TI} : ∀ {ps : List (Nat × Operand)} {cells : List CV}, (∀ t, Operand.tmp t ∈ ps.map (·.2) → f t = f' t) → fillOf X ⟨f, b⟩ d i cells ps = fillOf X ⟨f', b'⟩ d i cells ps
  | [], _, _ => rfl
  | (k, x) :: ps, cells, h => by
    simp only [fillOf]
    split
    · rename_i t off size _
      rw [ev_cong (f := f) (f' := f') (b := b) (b' := b') fun t e => h t (by simp [e])]
      split
      · rw [fillOf_cong fun t ht => h t (by simp [ht])]
      · rfl
    · rfl
theorem valF_cong (h : look o.op f f') (hl : ∀ T p, o.op = .load T p → b = b') : valF X o ⟨f, b⟩ some = valF X o ⟨f', b'⟩ some := by
  unfold look at h
  unfold valF
  cases ho : o.op <;> rw [ho] at h <;> simp only [Op.operands] at h <;> simp only
  case move x => rw [ev_cong (b := b) (b' := b') fun t e => h t (by simp [e])]
  case assign x => rw [ev_cong (b := b) (b' := b') fun t e => h t (by simp [e])]
  case pick c x y => rw [evB_cong (b := b) (b' := b') fun t e => h t (by simp [e]), evC_cong (x := x) (b := b) (b' := b') fun t e => h t (by simp [e]), evC_cong (x := y) (b := b) (b' := b') fun t e => h t (by simp [e])]
  case build T ps => simp only [fillOf_cong (X := X) (f := f) (f' := f') (b := b) (b' := b') (ps := ps.toList) fun t ht => h t (by simpa using ht)]
  case buildSlice T n ps => simp only [partsOf_cong (X := X) (f := f) (f' := f') (b := b) (b' := b') (ps := ps.toList) fun t ht => h t (by simpa using ht)]
  case load T p => rw [evC_cong (b := b) (b' := b') fun t e => h t (by simp [e]), hl T p ho]
  case nilCheck x => rw [evC_cong (b := b) (b' := b') fun t e => h t (by simp [e])]
  case binOp op T x y U =>
    have ha : ∀ z : Operand, (∀ t, z = .tmp t → f t = f' t) → aggOf ⟨f, b⟩ z = aggOf ⟨f', b'⟩ z := fun z hz => by
      cases z with
      | tmp t => simp only [aggOf, hz t rfl]
      | _ => rfl
    rw [ha x fun t e => h t (by simp [e]), ha y fun t e => h t (by simp [e]), evC_cong (x := x) (b := b) (b' := b') fun t e => h t (by simp [e]), evC_cong (x := y) (b := b) (b' := b') fun t e => h t (by simp [e])]
  case unOp op T x => rw [evC_cong (b := b) (b' := b') fun t e => h t (by simp [e])]
  case convert S T x => rw [evC_cong (b := b) (b' := b') fun t e => h t (by simp [e])]
  case makeFunc fn x y => simp only [capsOf_cong (f := f) (f' := f') (b := b) (b' := b') (xs := y.toList) fun t ht => h t (by simp; right; simpa using ht)]
  case makeSlice T x y => rw [evI_cong (x := x) (b := b) (b' := b') fun t e => h t (by simp [e]), evI_cong (x := y) (b := b) (b' := b') fun t e => h t (by simp [e])]
  case slice T x lo hi mx =>
    rw [evC_cong (x := x) (b := b) (b' := b') fun t e => h t (by simp [e]), evO_cong (x := lo) (b := b) (b' := b') fun t e => h t (by simp [e]), evO_cong (x := hi) (b := b) (b' := b') fun t e => h t (by simp [e])]
    cases mx with
    | none => rfl
    | some m =>
      dsimp only
      rw [evI_cong (x := m) (b := b) (b' := b') fun t e => h t (by simp [e])]
  case fieldAddr T x k => rw [evC_cong (b := b) (b' := b') fun t e => h t (by simp [e])]
  case field T x k =>
    cases x with
    | tmp t => simp only [aggOf, h t (by simp)]
    | _ => rfl
  case indexAddr T x i => rw [evC_cong (x := x) (b := b) (b' := b') fun t e => h t (by simp [e]), evI_cong (x := i) (b := b) (b' := b') fun t e => h t (by simp [e])]
  case index T x i => rw [evC_cong (x := x) (b := b) (b' := b') fun t e => h t (by simp [e]), evI_cong (x := i) (b := b) (b' := b') fun t e => h t (by simp [e])]
  case extract x i =>
    cases x with
    | tmp t => simp only [h t (by simp)]
    | _ => rfl
  case call c =>
    split
    · split
      · split
        · rename_i x T hx hT
          rw [evC_cong (x := x) (b := b) (b' := b') fun t e => h t (by
            simp only [Call.operands, Array.mem_append]
            right
            rw [← Array.mem_toList_iff, hx]; simp [e])]
        · rfl
      · split
        · rename_i x y hx
          have hm : ∀ z t, (z = x ∨ z = y) → z = .tmp t → f t = f' t := fun z t hz e => h t (by
            simp only [Call.operands, Array.mem_append]
            right
            rw [← Array.mem_toList_iff, hx]
            rcases hz with rfl | rfl <;> simp [e])
          rw [evI_cong (x := x) (b := b) (b' := b') fun t e => hm x t (.inl rfl) e, evI_cong (x := y) (b := b) (b' := b') fun t e => hm y t (.inr rfl) e]
        · rfl
      · rfl
    · rfl
/-! ### What an operation does, told by what it looks at -/
/-- 'H': the value and the boxes, out of the slots and the boxes. -/
structure Form (X : Ctx) (ops : Array Oper) (q : Option (List Nat)) (o : Oper) (H : TM → BX → Option (AV × BX)) : Prop where
  eq : ∀ s, step1 X ops q o s some = (H s.tm s.bx).map fun p => St.put ⟨s.tm, p.2⟩ o.dst p.1
  cong : ∀ f f' b, (∀ t ∈ o.looksAt ops, f t = f' t) → H f b = H f' b
def Silent (H : TM → BX → Option (AV × BX)) : Prop := ∀ f b b', (H f b).map (·.1) = (H f b').map (·.1) ∧ ∀ v c, H f b = some (v, c) → c = b
def Reads (H : TM → BX → Option (AV × BX)) : Prop := ∀ f b v c, H f b = some (v, c) → c = b
theorem Silent.reads {H : TM → BX → Option (AV × BX)} (h : Silent H) : Reads H := fun f b v c e => (h f b b).2 v c e
theorem Silent.at {H : TM → BX → Option (AV × BX)} (h : Silent H) {f : TM} {b b' : BX} {v : AV} {c : BX} (e : H f b = some (v, c)) : H f b' = some (v, b') := by
  have h1 := (h f b b').1
  rw [e] at h1
  cases he : H f b' with
  | none => rw [he] at h1; cases h1
  | some p =>
    rw [he] at h1
    obtain ⟨v', c'⟩ := p
    have := (h f b' b').2 v' c' he
    subst this
    simp at h1
    rw [h1]
theorem upd_comm {α : Type} (f : Nat → α) {d e : Nat} (h : d ≠ e) (u v : α) : upd (upd f d u) e v = upd (upd f e v) d u := by
  funext t
  by_cases h1 : t = e
  · subst h1; rw [upd_same, upd_ne _ _ (Ne.symm h), upd_same]
  · rw [upd_ne _ _ h1]
    by_cases h2 : t = d
    · subst h2; rw [upd_same, upd_same]
    · rw [upd_ne _ _ h2, upd_ne _ _ h2, upd_ne _ _ h1]
def putT (f : TM) (d : Option Nat) (v : AV) : TM := match d with | some d => upd f d v | none => f
theorem put_eq (s : St) (d : Option Nat) (v : AV) : s.put d v = ⟨putT s.tm d v, s.bx⟩ := by cases d <;> rfl
theorem putT_comm (f : TM) {d e : Option Nat} (h : ∀ x, d = some x → e ≠ some x) (u v : AV) : putT (putT f d u) e v = putT (putT f e v) d u := by
  cases d with
  | none => rfl
  | some d => cases e with
    | none => rfl
    | some e => exact upd_comm f (fun x => h d rfl (by rw [x])) u v
theorem putT_look {f : TM} {d : Option Nat} {v : AV} {l : List Tmp} (h : ∀ x, d = some x → x ∉ l) : ∀ t ∈ l, putT f d v t = f t := by
  intro t ht
  cases d with
  | none => rfl
  | some d => exact upd_ne _ _ (fun e => h d rfl (e ▸ ht))
/-- Two operations change places. -/
def Dia (X : Ctx) (ops : Array Oper) (qa : Option (List Nat)) (a : Oper) (qb : Option (List Nat)) (b : Oper) : Prop :=
  ∀ s s1 s2, step1 X ops qa a s some = some s1 → step1 X ops qb b s1 some = some s2 → ∃ t, step1 X ops qb b s some = some t ∧ step1 X ops qa a t some = some s2
theorem dia_of {qa qb : Option (List Nat)} {oa ob : Oper} {Ha Hb : TM → BX → Option (AV × BX)} (ha : Form X ops qa oa Ha) (hb : Form X ops qb ob Hb) (hap : oa.apart ops ob = true) (h : Silent Ha ∨ Silent Hb ∨ (Reads Ha ∧ Reads Hb)) : Dia X ops qa oa qb ob := by
  obtain ⟨p1, p2, p3⟩ := Oper.apart_spec hap
  intro s s1 s2 e1 e2
  rw [ha.eq] at e1
  obtain ⟨⟨va, ca⟩, h1, rfl⟩ := Option.map_eq_some_iff.1 e1
  rw [hb.eq] at e2
  obtain ⟨⟨vb, cb⟩, h2, rfl⟩ := Option.map_eq_some_iff.1 e2
  simp only [put_eq] at h2 ⊢
  rw [hb.cong _ s.tm _ (putT_look fun x hx => p1 x hx)] at h2
  have hcomm := putT_comm s.tm (d := oa.dst) (e := ob.dst) p2 va vb
  rcases h with hs | hs | ⟨hr1, hr2⟩
  · have hc : ca = s.bx := hs.reads _ _ _ _ h1
    subst hc
    refine ⟨_, by rw [hb.eq, h2]; rfl, ?_⟩
    rw [ha.eq]
    simp only [put_eq]
    rw [ha.cong _ s.tm _ (putT_look fun x hx => p3 x hx), hs.at h1]
    simp only [Option.map_some, put_eq, hcomm]
  · have hc : cb = ca := hs.reads _ _ _ _ h2
    subst hc
    refine ⟨_, by rw [hb.eq, hs.at (b' := s.bx) h2]; rfl, ?_⟩
    rw [ha.eq]
    simp only [put_eq]
    rw [ha.cong _ s.tm _ (putT_look fun x hx => p3 x hx), h1]
    simp only [Option.map_some, put_eq, hcomm]
  · have hc : ca = s.bx := hr1 _ _ _ _ h1
    subst hc
    have hc : cb = s.bx := hr2 _ _ _ _ h2
    subst hc
    refine ⟨_, by rw [hb.eq, h2]; rfl, ?_⟩
    rw [ha.eq]
    simp only [put_eq]
    rw [ha.cong _ s.tm _ (putT_look fun x hx => p3 x hx), h1]
    simp only [Option.map_some, put_eq, hcomm]
/-! ### The forms -/
def toldT (ops : Array Oper) (f : TM) (j : Nat) (want : Bool) : Option Bool := told ops ⟨f, fun _ => none⟩ j want some
theorem told_eq (s : St) (j : Nat) (want : Bool) : told ops s j want some = toldT ops s.tm j want := rfl
def stepH (X : Ctx) (ops : Array Oper) (o : Oper) (H : TM → BX → Option (AV × BX)) (f : TM) (b : BX) : Option (AV × BX) :=
  bif dstOk X.n o.dst then
    match o.guard with
    | none => H f b
    | some (j, want) => (toldT ops f j want).bind fun c => bif c then H f b else some (.one false [.un], b)
  else none
theorem form_of {q : Option (List Nat)} {H : TM → BX → Option (AV × BX)} (he : ∀ s, exec X q o s some = (H s.tm s.bx).map fun p => St.put ⟨s.tm, p.2⟩ o.dst p.1) (hc : ∀ f f' b, look o.op f f' → H f b = H f' b) : Form X ops q o (stepH X ops o H) := by
  refine ⟨fun s => ?_, fun f f' b h => ?_⟩
  · unfold step1 stepH
    cases dstOk X.n o.dst
    · rfl
    · simp only [cond_true]
      cases o.guard with
      | none => exact he s
      | some p =>
        obtain ⟨j, want⟩ := p
        simp only
        rw [told_nat, told_eq]
        cases toldT ops s.tm j want with
        | none => rfl
        | some c =>
          cases c
          · rfl
          · exact he s
  · have hl : look o.op f f' := fun t ht => h t (List.mem_append_left _ (List.mem_filterMap.2 ⟨.tmp t, by simpa using ht, rfl⟩))
    unfold stepH
    split
    · rw [hc f f' b hl]
    · rename_i j want hg
      have : toldT ops f j want = toldT ops f' j want := by
        unfold toldT told
        split
        · rename_i oj hoj
          split
          · rename_i t ht
            have := h t (by
              simp only [Oper.looksAt, hg]
              refine List.mem_append_right _ ?_
              simp [hoj, ht])
            simp only [this]
          · rfl
        · rfl
      rw [this, hc f f' b hl]
theorem silent_step {H : TM → BX → Option (AV × BX)} (h : Silent H) : Silent (stepH X ops o H) := by
  intro f b b'
  unfold stepH
  cases dstOk X.n o.dst
  · exact ⟨rfl, fun v c e => by cases e⟩
  · simp only [cond_true]
    split
    · exact h f b b'
    · rename_i j want _
      cases toldT ops f j want with
      | none => exact ⟨rfl, fun v c e => by cases e⟩
      | some c =>
        cases c
        · exact ⟨rfl, fun v c e => by simp at e; exact e.2.symm⟩
        · exact h f b b'
theorem reads_step {H : TM → BX → Option (AV × BX)} (h : Reads H) : Reads (stepH X ops o H) := by
  intro f b v c e
  unfold stepH at e
  obtain ⟨_, e⟩ := b_true e
  split at e
  · exact h f b v c e
  · obtain ⟨k, _, e⟩ := Option.bind_eq_some_iff.1 e
    cases k
    · simp at e; exact e.2.symm
    · exact h f b v c e
theorem exec_as_val {q : Option (List Nat)} (hk : kindOf o.op = .pure ∨ kindOf o.op = .load) (s : St) : exec X q o s some = valF X o s fun v => some (s.put o.dst v) := by
  unfold exec
  cases ho : o.op <;> rw [ho] at hk <;> simp only [kindOf] at hk <;> first | rfl | (rcases hk with hk | hk <;> cases hk; done) | skip
  rename_i c
  cases hc : c.callee with
  | value f => rw [hc] at hk; rcases hk with hk | hk <;> cases hk
  | invoke r m => rw [hc] at hk; rcases hk with hk | hk <;> cases hk
  | builtin b =>
    rw [hc] at hk
    by_cases hb : b = .append
    · subst hb; rcases hk with hk | hk <;> cases hk
    · simp only [hc]
def valH (X : Ctx) (o : Oper) (f : TM) (b : BX) : Option (AV × BX) := (valF X o ⟨f, b⟩ some).map fun v => (v, b)
theorem form_val {q : Option (List Nat)} (hk : kindOf o.op = .pure ∨ kindOf o.op = .load) : Form X ops q o (stepH X ops o (valH X o)) := by
  refine form_of (fun s => ?_) fun f f' b h => ?_
  · rw [exec_as_val hk, valF_nat]
    unfold valH
    cases valF X o s some <;> rfl
  · unfold valH; rw [valF_cong h fun _ _ _ => rfl]
theorem silent_val (hk : kindOf o.op = .pure) : Silent (valH X o) := by
  intro f b b'
  have : valF X o ⟨f, b⟩ some = valF X o ⟨f, b'⟩ some := valF_cong (fun _ _ => rfl) fun T p ho => by rw [ho] at hk; cases hk
  unfold valH
  rw [this]
  refine ⟨by cases valF X o ⟨f, b'⟩ some <;> rfl, fun v c e => ?_⟩
  obtain ⟨x, _, hx⟩ := Option.map_eq_some_iff.1 e
  cases hx; rfl
theorem reads_val : Reads (valH X o) := by
  intro f b v c e
  obtain ⟨x, _, hx⟩ := Option.map_eq_some_iff.1 e
  cases hx; rfl
end
end Go.Proofs.Ythmdefgepnkgiaa.Eng
