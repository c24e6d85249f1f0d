/- An operation that only looks tells the same beside an append. Conditions: the append's row was not made by it. -/
import Derived.Test.YthmdefgepnkgiaaE14
namespace Go.Proofs.Ythmdefgepnkgiaa.Eng
open Go
section
variable {X : Ctx} {ops : Array Oper} {o : Oper} {t : Nat} {s : St}
theorem unfl_dv (c : CV) : (c.unfl t).dv = c.dv := by
  cases c with
  | own t' x => cases x <;> simp only [CV.unfl] <;> first | rfl | (cases Nat.beq t' t <;> rfl)
  | _ => rfl
theorem unfl_sure (c : CV) : (c.unfl t).sure = c.sure := by
  cases c with
  | own t' x => cases x <;> simp only [CV.unfl] <;> first | rfl | (cases Nat.beq t' t <;> rfl)
  | _ => rfl
theorem unfl_fresh {d j : Nat} (x : DV) (hj : j < 64) (h : t / 64 ≠ d) : (CV.own (tk d j) x).unfl t = .own (tk d j) x := by
  have hb : Nat.beq (tk d j) t = false := by
    cases e : Nat.beq (tk d j) t
    · rfl
    · have := beq_true e
      unfold tk at this
      omega
  cases x <;> simp only [CV.unfl, hb, cond_false]
theorem map_tm (s : St) (k : Nat) : (s.map (CV.unfl t)).tm k = (s.tm k).map (CV.unfl t) := rfl
theorem evC_eqv (x : Operand) : evC (s.map (CV.unfl t)) x = (evC s x).map (CV.unfl t) := by
  cases x with
  | tmp k =>
    simp only [evC, map_tm]
    cases s.tm k with
    | one a cs =>
      cases a with
      | true => rfl
      | false =>
        cases cs with
        | nil => rfl
        | cons c r => cases r <;> rfl
    | tup vs => rfl
  | const v => cases v <;> rfl
  | _ => rfl
theorem unfl_pl (c : CV) : (c.unfl t).pl = c.pl := by
  cases c with
  | own t' x => cases x <;> simp only [CV.unfl] <;> first | rfl | (cases Nat.beq t' t <;> rfl)
  | _ => rfl
theorem evI_eqv (x : Operand) : evI (s.map (CV.unfl t)) x = evI s x := by
  unfold evI
  rw [evC_eqv]
  cases evC s x with
  | none => rfl
  | some c => simp only [Option.map_some, unfl_pl]
theorem evB_eqv (x : Operand) : evB (s.map (CV.unfl t)) x = evB s x := by
  unfold evB
  rw [evC_eqv]
  cases evC s x with
  | none => rfl
  | some c => simp only [Option.map_some, unfl_pl]
theorem evO_eqv (x : Option Operand) : evO (s.map (CV.unfl t)) x = evO s x := by
  cases x with
  | none => rfl
  | some x => simp only [evO, evI_eqv]
theorem ev_eqv {d : Nat} (h : t / 64 ≠ d) (T : TypeId) (x : Operand) : ev X (s.map (CV.unfl t)) d T x = (ev X s d T x).map (AV.map (CV.unfl t)) := by
  cases x with
  | tmp k => rfl
  | const v =>
    cases v <;> first | rfl | skip
    rename_i a l c
    rcases a with _ | a <;> rcases l with _ | l <;> rcases c with _ | c <;> first | rfl | skip
    simp only [ev]
    split
    · split
      · split
        · simp only [Option.map_some, AV.map, List.map_cons, List.map_nil, unfl_fresh _ (show 0 < 64 by omega) h]
        · rfl
      · rfl
    · rfl
  | _ => rfl
theorem allD_eqv : ∀ (cs : List CV), allD (cs.map (CV.unfl t)) = allD cs
  | [] => rfl
  | c :: r => by simp only [List.map_cons, allD, unfl_dv, allD_eqv r]
/-- Where the slot's own mark plays no part. -/
theorem ev_allD (T : TypeId) (d : Nat) (x : Operand) : (match ev X (s.map (CV.unfl t)) d T x with | some (.one _ cs) => allD cs | _ => none) = (match ev X s d T x with | some (.one _ cs) => allD cs | _ => none) := by
  cases x with
  | tmp k =>
    simp only [ev, map_tm]
    cases s.tm k with
    | one a cs => exact allD_eqv cs
    | tup vs => rfl
  | const v =>
    cases v <;> first | rfl | skip
    rename_i a l c
    rcases a with _ | a <;> rcases l with _ | l <;> rcases c with _ | c <;> rfl
  | _ => rfl
theorem partsOf_eqv (T : TypeId) : ∀ (j : Nat) (ps : List (Nat × Operand)), partsOf X (s.map (CV.unfl t)) T j ps = partsOf X s T j ps
  | _, [] => rfl
  | j, (i, x) :: r => by
    have h := ev_allD (X := X) (s := s) (t := t) T 0 x
    simp only [partsOf]
    rw [partsOf_eqv T (j + 1) r]
    cases Nat.beq i j
    · rfl
    · simp only [cond_true]
      cases h1 : ev X (s.map (CV.unfl t)) 0 T x with
      | none =>
        rw [h1] at h
        cases h2 : ev X s 0 T x with
        | none => rfl
        | some v =>
          rw [h2] at h
          cases v with
          | one a cs => simp only at h ⊢; rw [← h]
          | tup vs => rfl
      | some v =>
        rw [h1] at h
        cases h2 : ev X s 0 T x with
        | none =>
          rw [h2] at h
          cases v with
          | one a cs => simp only at h ⊢; rw [h]
          | tup vs => rfl
        | some v' =>
          rw [h2] at h
          cases v with
          | one a cs =>
            cases v' with
            | one a' cs' => simp only at h ⊢; rw [h]
            | tup vs => simp only at h ⊢; rw [h]
          | tup vs =>
            cases v' with
            | one a' cs' => simp only at h ⊢; rw [← h]
            | tup vs => rfl
theorem setAt_map {α β : Type} (f : α → β) : ∀ (vs cells : List α) (o : Nat), setAt (cells.map f) o (vs.map f) = (setAt cells o vs).map f
  | [], _, _ => rfl
  | v :: r, cells, o => by
    simp only [List.map_cons, setAt]
    rw [← List.map_set, setAt_map f r]
theorem all_sure (cs : List CV) : (cs.map (CV.unfl t)).all CV.sure = cs.all CV.sure := by
  induction cs with
  | nil => rfl
  | cons c r ih => simp only [List.map_cons, List.all_cons, unfl_sure, ih]
theorem fillOf_eqv {d : Nat} (h : t / 64 ≠ d) (i : TI) : ∀ (ps : List (Nat × Operand)) (cells : List CV), fillOf X (s.map (CV.unfl t)) d i (cells.map (CV.unfl t)) ps = (fillOf X s d i cells ps).map (List.map (CV.unfl t))
  | [], _ => rfl
  | (k, x) :: r, cells => by
    simp only [fillOf]
    cases placeOf X i k with
    | none => rfl
    | some p =>
      obtain ⟨T, off, size⟩ := p
      simp only
      rw [ev_eqv h]
      cases ev X s d T x with
      | none => rfl
      | some v =>
        cases v with
        | tup vs => rfl
        | one a cs =>
          simp only [Option.map_some, AV.map, List.length_map, all_sure]
          cases (Nat.beq cs.length size && cs.all CV.sure && Nat.ble (off + cs.length) cells.length)
          · rfl
          · simp only [cond_true]
            rw [setAt_map, fillOf_eqv h i r]
theorem zeroCs_eqv {d : Nat} (h : t / 64 ≠ d) : ∀ (z : List DV) (j : Nat), j + z.length ≤ 64 → (zeroCs d j z).map (CV.unfl t) = zeroCs d j z
  | [], _, _ => rfl
  | x :: r, j, hj => by
    simp only [List.length_cons] at hj
    simp only [zeroCs, List.map_cons, zeroCs_eqv h r (j + 1) (by omega)]
    congr 1
    cases x <;> simp only [zeroC] <;> first | rfl | exact unfl_fresh _ (by omega) h
theorem capsOf_eqv : ∀ (xs : List Operand), capsOf (s.map (CV.unfl t)) xs = capsOf s xs
  | [] => rfl
  | x :: r => by
    simp only [capsOf, evC_eqv, capsOf_eqv r]
    cases evC s x with
    | none => rfl
    | some c =>
      cases c with
      | own t' x => cases x <;> simp only [Option.map_some, CV.unfl] <;> first | rfl | (cases Nat.beq t' t <;> rfl)
      | _ => rfl
theorem nth_some {α : Type} {l : List α} {i : Int} {β : Type} {K : α → Option β} {r : β} (h : nth l i K = some r) : ∃ x, K x = some r := by
  unfold nth at h
  obtain ⟨_, h⟩ := b_true h
  split at h
  · exact ⟨_, h⟩
  · cases h
theorem ixAddrF_plain {T : TypeId} {c r : CV} {n : Int} (h : ixAddrF X T c n some = some r) : r.unfl t = r := by
  unfold ixAddrF at h
  split at h
  case h_2 => cases h
  split at h
  · split at h
    case h_2 => cases h
    split at h
    · obtain ⟨_, h⟩ := b_true h
      obtain ⟨x, hx⟩ := nth_some h
      obtain rfl := Option.some.inj hx
      rfl
    · obtain ⟨_, h⟩ := b_true h
      obtain ⟨x, hx⟩ := nth_some h
      obtain rfl := Option.some.inj hx
      rfl
    · split at h
      · obtain ⟨_, h⟩ := b_true h
        obtain ⟨_, h⟩ := b_true h
        obtain rfl := Option.some.inj h
        rfl
      · cases h
  · split at h
    case h_2 => cases h
    obtain ⟨_, h⟩ := b_true h
    obtain ⟨_, h⟩ := b_true h
    obtain rfl := Option.some.inj h
    rfl
  · cases h
theorem cutP_plain {T : TypeId} {b o len : Nat} {cap : Option Nat} {lo hi : Option Int} {r : CV} (h : cutP X T b o len cap lo hi some = some r) : r.unfl t = r := by
  unfold cutP at h
  split at h
  case h_2 => cases h
  split at h
  case h_2 => cases h
  split at h
  case h_2 => cases h
  obtain ⟨_, h⟩ := b_true h
  obtain ⟨_, h⟩ := b_true h
  obtain ⟨_, h⟩ := b_true h
  obtain ⟨_, h⟩ := b_true h
  obtain rfl := Option.some.inj h
  rfl
theorem valF_eqv {d : Nat} (hd : o.dst = some d) (h : t / 64 ≠ d) : valF X o (s.map (CV.unfl t)) some = (valF X o s some).map (AV.map (CV.unfl t)) := by
  have hf : ∀ x : DV, AV.map (CV.unfl t) (.c (.own (tk d 0) x)) = .c (.own (tk d 0) x) := fun x => by simp only [AV.map, List.map_cons, List.map_nil, unfl_fresh x (show 0 < 64 by omega) h]
  unfold valF
  cases ho : o.op <;> simp only [hd, Option.getD_some] <;> first | rfl | skip
  case move x =>
    rw [ev_eqv h]
    cases ev X s d o.type x <;> rfl
  case assign x =>
    rw [ev_eqv h]
    cases ev X s d o.type x <;> rfl
  case pick c x y =>
    rw [evB_eqv, evC_eqv, evC_eqv]
    cases evB s c with
    | none => rfl
    | some b => cases b <;> simp only [cond_true, cond_false] <;> (first | (cases evC s x <;> rfl) | (cases evC s y <;> rfl))
  case build T ps =>
    cases X.ty T with
    | none => rfl
    | some i =>
      simp only
      cases hb : (Nat.beq i.zero.length i.size && placesOk X i && Nat.ble i.size 64)
      · rfl
      · simp only [Bool.and_eq_true] at hb
        have h1 := beq_true hb.1.1
        have h2 := ble_true hb.2
        simp only [cond_true]
        have := fillOf_eqv (X := X) (s := s) h i ps.toList (zeroCs d 0 i.zero)
        rw [zeroCs_eqv h i.zero 0 (by omega)] at this
        rw [this]
        cases fillOf X s d i (zeroCs d 0 i.zero) ps.toList <;> rfl
  case buildSlice T n ps =>
    simp only [partsOf_eqv]
    repeat' (first | rfl | split)
    all_goals simp only [Bool.cond_eq_ite]
    all_goals repeat' (first | rfl | split)
    all_goals simp only [Option.map_some, hf]
  case load T p =>
    rw [evC_eqv]
    cases X.ty T with
    | none => rfl
    | some i =>
      cases evC s p with
      | none => rfl
      | some c =>
        simp only [Option.map_some]
        cases c with
        | ptr b k q =>
          cases q with
          | some q => rfl
          | none =>
          simp only [CV.unfl, loadF, St.map]
          cases s.bx b with
          | none => rfl
          | some cells =>
            simp only [Option.map_some, List.length_map]
            cases i.agg
            · simp only [cond_false, List.getElem?_map]
              cases cells[k]? <;> rfl
            · simp only [cond_true]
              cases Nat.ble (k + i.size) cells.length
              · rfl
              · simp only [cond_true, Option.map_some, AV.map, List.map_take, List.map_drop]
        | ep row =>
          simp only [CV.unfl, loadF]
          have hrc : ∀ (l : List DV), (l.map CV.d).map (CV.unfl t) = l.map CV.d := by
            intro l
            induction l with
            | nil => rfl
            | cons x l ih => simp only [List.map_cons, ih]; rfl
          have hty : ∀ (a : Bool) (zs row : List DV), (typedF zs row fun cs => some (AV.one a cs)) = (typedF zs row fun cs => some (AV.one a cs)).map (AV.map (CV.unfl t)) := by
            intro a zs row
            cases he : typedF zs row fun cs => some (AV.one a cs) with
            | none => rfl
            | some r =>
              have := (typedF_eq he).2
              obtain rfl := Option.some.inj this
              simp only [Option.map_some, AV.map, hrc]
          cases i.agg
          · simp only [cond_false]
            cases Nat.beq i.zero.length 1
            · rfl
            · simp only [cond_true]; exact hty _ _ _
          · simp only [cond_true]
            cases Nat.beq i.zero.length i.size
            · rfl
            · simp only [cond_true]; exact hty _ _ _
        | own t' x => cases x <;> simp only [CV.unfl] <;> first | rfl | (cases Nat.beq t' t <;> rfl)
        | _ => rfl
  case nilCheck x =>
    rw [evC_eqv]
    cases evC s x with
    | none => rfl
    | some c =>
      cases c with
      | own t' x => cases x <;> simp only [Option.map_some, CV.unfl] <;> first | rfl | (cases Nat.beq t' t <;> rfl)
      | ptr b k q => cases q <;> rfl
      | _ => rfl
  case binOp op T x y U =>
    have ha : ∀ z : Operand, aggOf (s.map (CV.unfl t)) z = (aggOf s z).map (·.map (CV.unfl t)) := fun z => by
      cases z with
      | tmp u =>
        simp only [aggOf, map_tm]
        cases s.tm u with
        | one a cs => cases a <;> rfl
        | tup vs => rfl
      | _ => rfl
    rw [ha x, ha y]
    cases aggOf s x with
    | some cs =>
      simp only [Option.map_some]
      cases aggOf s y with
      | none => rfl
      | some ds =>
        simp only [Option.map_some]
        have hE : ∀ {R : Type} (K : DV → Option R), eqAgg X op T (cs.map (CV.unfl t)) (ds.map (CV.unfl t)) K = eqAgg X op T cs ds K := by
          intro R K
          have h1 : ∀ {R : Type} (d : TypeDesc) (c c' : CV) (K : Bool → Option R), eqC d (CV.unfl t c) (CV.unfl t c') K = eqC d c c' K := by
            intro R d c c' K
            have hn : ∀ c : CV, (∃ y, c = .d y ∧ CV.unfl t c = c) ∨ ((∀ y, c ≠ .d y) ∧ ((∀ y, CV.unfl t c ≠ .d y) ∨ (∃ k l, CV.unfl t c = .d (.ints k l)) ∨ ∃ k l, CV.unfl t c = .d (.sl k l))) := by
              intro c
              cases c with
              | d y => exact .inl ⟨y, rfl, rfl⟩
              | own t' x =>
                refine .inr ⟨(fun y h => by cases h), ?_⟩
                cases x with
                | ints k l =>
                  simp only [CV.unfl]
                  cases Nat.beq t' t
                  · exact .inl (fun y h => by cases h)
                  · exact .inr (.inl ⟨k, l, rfl⟩)
                | sl k l =>
                  simp only [CV.unfl]
                  cases Nat.beq t' t
                  · exact .inl (fun y h => by cases h)
                  · exact .inr (.inr ⟨k, l, rfl⟩)
                | _ => exact .inl (fun y h => by cases h)
              | _ => exact .inr ⟨(fun y h => by cases h), .inl (fun y h => by cases h)⟩
            have hz : ∀ a b : CV, ((∀ y, a ≠ .d y) ∨ (∃ k l, a = .d (.ints k l)) ∨ ∃ k l, a = .d (.sl k l)) ∨ ((∀ y, b ≠ .d y) ∨ (∃ k l, b = .d (.ints k l)) ∨ ∃ k l, b = .d (.sl k l)) → eqC d a b K = none := by
              rintro a b (h | h)
              · unfold eqC
                split
                all_goals first
                  | rfl
                  | (rcases h with h | ⟨_, _, h⟩ | ⟨_, _, h⟩
                     · exact absurd rfl (h _)
                     · cases h
                     · cases h)
              · unfold eqC
                split
                all_goals first
                  | rfl
                  | (rcases h with h | ⟨_, _, h⟩ | ⟨_, _, h⟩
                     · exact absurd rfl (h _)
                     · cases h
                     · cases h)
            rcases hn c with ⟨y, _, e1⟩ | ⟨e1, e2⟩
            · rcases hn c' with ⟨y', _, e3⟩ | ⟨e3, e4⟩
              · rw [e1, e3]
              · rw [hz _ _ (.inr e4), hz _ _ (.inr (.inl e3))]
            · rw [hz _ _ (.inl e2), hz _ _ (.inl (.inl e1))]
          have h2 : ∀ {R : Type} (ts : List TypeDesc) (cs ds : List CV) (K : Bool → Option R), eqCs ts (cs.map (CV.unfl t)) (ds.map (CV.unfl t)) K = eqCs ts cs ds K := by
            intro R ts
            induction ts with
            | nil => intro cs ds K; cases cs <;> cases ds <;> rfl
            | cons u ts ih =>
              intro cs ds K
              cases cs with
              | nil => rfl
              | cons c cs =>
                cases ds with
                | nil => rfl
                | cons d ds =>
                  simp only [List.map_cons, eqCs, h1]
                  congr 1; funext b
                  exact ih cs ds _
          unfold eqAgg
          simp only [h2]
        rw [hE, eqAgg_nat]
        cases eqAgg X op T cs ds some <;> rfl
    | none =>
    simp only [Option.map_none]
    rw [evC_eqv, evC_eqv]
    cases evC s x with
    | none => rfl
    | some a =>
      cases evC s y with
      | none => rfl
      | some b =>
        simp only [Option.map_some, unfl_pl]
        rw [bin_nat]
        cases bin X op T a.pl b.pl some <;> rfl
  case unOp op T x =>
    rw [evC_eqv]
    cases evC s x with
    | none => rfl
    | some a =>
      simp only [Option.map_some, unfl_pl]
      rw [un_nat]
      cases un op a.pl some <;> rfl
  case convert S T x =>
    rw [evC_eqv]
    cases evC s x with
    | none => rfl
    | some a =>
      simp only [Option.map_some, unfl_pl]
      generalize a.pl = c
      unfold conv
      simp only [Bool.cond_eq_ite]
      repeat' (first | rfl | split)
  case makeFunc fn x y => 
    simp only [capsOf_eqv]
    repeat' (first | rfl | split)
  case makeSlice T x y =>
    rw [evI_eqv, evI_eqv]
    repeat' (first | rfl | split)
    rw [makeF_nat]
    cases makeF X T _ _ some with
    | none => rfl
    | some z => simp only [Option.bind_some, Option.map_some, hf]
  case slice T x lo hi mx =>
    rw [evC_eqv, evO_eqv, evO_eqv]
    cases mx with
    | some m =>
      dsimp only
      rw [evI_eqv]
      cases evC s x with
      | none => rfl
      | some c =>
        cases evO s lo with
        | none => rfl
        | some l =>
          cases evO s hi with
          | none => rfl
          | some u =>
            cases evI s m with
            | none => rfl
            | some p =>
              have key : ∀ K : DV → Option AV, cutM X T (c.unfl t) l u p.2 K = cutM X T c l u p.2 K := fun K => by unfold cutM cutF; simp only [unfl_dv]
              simp only [Option.map_some]
              rw [key, cutM_nat]
              cases cutM X T c l u p.2 some <;> rfl
    | none =>
      cases evC s x with
      | none => rfl
      | some c =>
        cases evO s lo with
        | none => rfl
        | some l =>
          cases evO s hi with
          | none => rfl
          | some u =>
            simp only [Option.map_some]
            have key : ∀ K : DV → Option AV, cutF X T (c.unfl t) l u K = cutF X T c l u K := fun K => by unfold cutF; simp only [unfl_dv]
            have hd : cutF X T (c.unfl t) l u (fun r => some (AV.c (.d r))) = (cutF X T c l u (fun r => some (AV.c (.d r)))).map (AV.map (CV.unfl t)) := by
              rw [key, cutF_nat]
              cases cutF X T c l u some <;> rfl
            cases c with
            | ptr b k q =>
              rcases q with _ | ⟨n, cc⟩
              · exact hd
              · show cutP X T b k n cc l u (fun r => some (AV.c r)) = (cutP X T b k n cc l u (fun r => some (AV.c r))).map (AV.map (CV.unfl t))
                rw [cutP_nat]
                cases hc : cutP X T b k n cc l u some with
                | none => rfl
                | some r =>
                  simp only [Option.bind_some, Option.map_some, AV.map, List.map_cons, List.map_nil, cutP_plain hc]
            | own t' x => cases x <;> simp only [CV.unfl] at hd ⊢ <;> first | exact hd | (cases hb : Nat.beq t' t <;> rw [hb] at hd <;> exact hd)
            | _ => exact hd
  case fieldAddr T x f =>
    rw [evC_eqv]
    cases evC s x with
    | none => rfl
    | some c =>
      have hfa : ∀ (k : Field → TI → Option AV), (∀ a b, (k a b).map (AV.map (CV.unfl t)) = k a b) → (fieldF X T f k).map (AV.map (CV.unfl t)) = fieldF X T f k := by
        intro k hk
        unfold fieldF
        repeat' (first | rfl | exact hk _ _ | split)
      cases c with
      | ptr b k q =>
        cases q with
        | some q => rfl
        | none =>
        simp only [Option.map_some, CV.unfl]
        exact (hfa _ fun a b => by cases Nat.ble 1 b.size <;> rfl).symm
      | ep row =>
        simp only [Option.map_some, CV.unfl]
        exact (hfa _ fun a b => by cases Nat.ble 1 b.size <;> first | rfl | (cases leN a.offset row.length <;> rfl)).symm
      | own t' x => cases x <;> simp only [Option.map_some, CV.unfl] <;> first | rfl | (cases Nat.beq t' t <;> rfl)
      | _ => rfl
  case field T x f =>
    cases x with
    | tmp k =>
      simp only [aggOf, map_tm]
      cases s.tm k with
      | tup vs => rfl
      | one a cs =>
        cases a with
        | false => rfl
        | true =>
          simp only [AV.map]
          unfold fieldF
          repeat' (first | rfl | split)
          rename_i fd _ _ fi _
          simp only [List.length_map]
          cases fi.agg
          · simp only [cond_false, List.getElem?_map]
            cases cs[fd.offset]? <;> rfl
          · simp only [cond_true]
            cases Nat.ble (fd.offset + fi.size) cs.length
            · rfl
            · simp only [cond_true, Option.map_some, AV.map, List.map_take, List.map_drop]
    | _ => rfl
  case indexAddr T x i =>
    rw [evC_eqv, evI_eqv]
    cases evC s x with
    | none => rfl
    | some c =>
      simp only [Option.map_some, unfl_pl]
      cases evI s i with
      | none => rfl
      | some p =>
        obtain ⟨k, n⟩ := p
        simp only [unfl_pl]
        rw [ixAddrF_nat]
        cases hr : ixAddrF X T c.pl n some with
        | none => rfl
        | some r => simp only [Option.bind_some, Option.map_some, AV.map, List.map_cons, List.map_nil, ixAddrF_plain hr]
  case index T x i =>
    rw [evC_eqv, evI_eqv]
    cases X.ty T with
    | none => rfl
    | some ti =>
      cases evC s x with
      | none => rfl
      | some c =>
        cases evI s i with
        | none => rfl
        | some p =>
          obtain ⟨k, n⟩ := p
          simp only [Option.map_some, unfl_dv]
          unfold nth
          simp only [Bool.cond_eq_ite]
          repeat' (first | rfl | split)
  case extract x i =>
    cases x with
    | tmp k =>
      simp only [map_tm]
      cases s.tm k with
      | one a cs => rfl
      | tup vs =>
        simp only [AV.map, List.getElem?_map]
        cases vs[i]? <;> rfl
    | _ => rfl
  case call c =>
    split
    · split
      · split
        · rw [evC_eqv]
          rename_i x T _ _
          cases evC s x with
          | none => rfl
          | some c =>
            simp only [Option.map_some]
            have : ∀ K : Int → Option AV, lenF X T (c.unfl t) K = lenF X T c K := fun K => by
              cases c with
              | ptr b k q => rfl
              | own t' x => cases x <;> simp only [CV.unfl] <;> first | rfl | (cases Nat.beq t' t <;> rfl)
              | _ => rfl
            rw [this, lenF_nat]
            cases lenF X T c some <;> rfl
        · rfl
      · split
        · rw [evI_eqv, evI_eqv]
          repeat' (first | rfl | split)
        · rfl
      · rfl
    · rfl
end
end Go.Proofs.Ythmdefgepnkgiaa.Eng
