/- What an operation that only looks tells is what the machine comes to: numbers, strings, places, parts. Conditions: the relation between the two states; the types' table is the program's. -/
import Derived.Test.YthmdefgepnkgiaaE5
import Derived.Test.YthmdefgepnkgiaaE2n
import Derived.Laws.StructEq
import Derived.ChangeKeysEq
namespace Go.Proofs.Ythmdefgepnkgiaa.Eng
open Go
section
variable {P : Program} {X : Ctx} {E : Ent} {g : Gh} {s : St} {a : Act} {w : World} {o : Oper} {r : AV}
theorem bin_ok {op : BinOp} {k : IntKind} {x y : Int} {d : DV} (hs : isShift op = false) (T : TypeId) (e : binI op k x y some = some d) :
    ∃ v, (binOp op T (.int k x) (.int k y)).run P w = .ok v w ∧ RepD g.S w d v := by
  cases op <;> simp [isShift] at hs <;> simp only [binI] at e <;> first | (obtain rfl := Option.some.inj e) | (obtain ⟨hc, e⟩ : eqI y 0 = false ∧ some _ = some d := by (cases hh : eqI y 0 <;> rw [hh] at e <;> first | exact ⟨rfl, e⟩ | cases e)) | cases e
  case add => exact ⟨_, by simp [binOp, Op.intArith], .int _ _⟩
  case sub => exact ⟨_, by simp [binOp, Op.intArith], .int _ _⟩
  case mul => exact ⟨_, by simp [binOp, Op.intArith], .int _ _⟩
  case quo =>
    obtain rfl := Option.some.inj e
    have : ¬ y = 0 := by simpa [eqI] using hc
    exact ⟨_, by simp [binOp, Op.intDiv, this], .int _ _⟩
  case rem =>
    obtain rfl := Option.some.inj e
    have : ¬ y = 0 := by simpa [eqI] using hc
    exact ⟨_, by simp [binOp, Op.intDiv, this], .int _ _⟩
  case and => exact ⟨_, by simp only [binOp, Op.intBits, ne_eq, not_true_eq_false, if_false]; rfl, .int _ _⟩
  case or => exact ⟨_, by simp only [binOp, Op.intBits, ne_eq, not_true_eq_false, if_false]; rfl, .int _ _⟩
  case xor => exact ⟨_, by simp only [binOp, Op.intBits, ne_eq, not_true_eq_false, if_false]; rfl, .int _ _⟩
  case andNot => exact ⟨_, by simp only [binOp, Op.intBits, ne_eq, not_true_eq_false, if_false]; rfl, .int _ _⟩
  case eql => exact ⟨.bool (x == y), by simp [binOp, Op.intCmp], .bool _⟩
  case neq => exact ⟨.bool (x != y), by simp [binOp, Op.intCmp], .bool _⟩
  case lss => exact ⟨.bool (decide (x < y)), by simp [binOp, Op.intCmp], by rw [ltI_eq]; exact .bool _⟩
  case leq => exact ⟨.bool (decide (x ≤ y)), by simp [binOp, Op.intCmp], by rw [leI_eq]; exact .bool _⟩
  case gtr => exact ⟨.bool (decide (x > y)), by simp [binOp, Op.intCmp], by rw [ltI_eq]; exact .bool _⟩
  case geq => exact ⟨.bool (decide (x ≥ y)), by simp [binOp, Op.intCmp], by rw [leI_eq]; exact .bool _⟩
theorem shift_ok {op : BinOp} {k k' : IntKind} {x y : Int} {d : DV} (hs : isShift op = true) (T : TypeId) (e : shiftI op k x y some = some d) :
    ∃ v, (binOp op T (.int k x) (.int k' y)).run P w = .ok v w ∧ RepD g.S w d v := by
  unfold shiftI at e
  cases hy : ltI y 0
  · rw [hy] at e
    have hn : ¬ y < 0 := by simpa [ltI_eq] using hy
    cases op <;> simp [isShift] at hs <;> simp only [cond_false] at e <;> obtain rfl := Option.some.inj e
    · exact ⟨_, by simp [binOp, Op.shift, hn], .int _ _⟩
    · exact ⟨_, by simp [binOp, Op.shift, hn], .int _ _⟩
  · rw [hy] at e; cases e
theorem binS_ok {op : BinOp} {x y : ByteArray} {d : DV} (T : TypeId) (e : binS op x y some = some d) :
    ∃ v, (binOp op T (.string x) (.string y)).run P w = .ok v w ∧ RepD g.S w d v := by
  cases op <;> simp only [binS] at e <;> first | (obtain rfl := Option.some.inj e) | (cases e; done) | (obtain ⟨hc, e⟩ := b_true e)
  case add =>
    obtain rfl := Option.some.inj e
    have h1 : x.size + y.size ≤ 9223372036854775807 := by simpa [leN] using hc
    have h2 : ¬ (((x.size + y.size : Nat) : Int) > IntKind.i64.max) := by
      have : IntKind.i64.max = 9223372036854775807 := by decide
      rw [this]; omega
    exact ⟨_, by simp only [binOp, Op.stringOp, if_neg h2]; rfl, .str _⟩
  all_goals exact ⟨_, by simp only [binOp, Op.stringOp]; rfl, .bool _⟩
theorem eqGuard_ok {op : BinOp} {T : TypeId} {x y : Operand} {u v : Value} (hu : u.oneCell' = true) (hn : u ≠ .nilIface) : (eqGuard op T x y u v).run P w = .ok () w := by
  unfold eqGuard
  cases op <;> simp <;> cases u <;> simp_all [Value.oneCell'] <;> rfl
theorem RepD.not_iface {S : Nat → Nat} {x : DV} {v : Value} (h : RepD S w x v) : v ≠ .nilIface := by cases h <;> simp
theorem aggOf_ok (h : Rel E g s a w) {x : Operand} {cs : List CV} (e : aggOf s x = some cs) : RepA g w (.one true cs) (a.eval x) := by
  unfold aggOf at e
  split at e
  · rename_i t
    split at e
    · rename_i cs' hs
      obtain rfl := Option.some.inj e
      have := h.tm t
      rw [hs] at this
      exact this
    · cases e
  · cases e
theorem part_one {e : TypeId} {d : TypeDesc} (hu : P.underlying e = some d) (hs : scalarD d = true) {xs : Array Value} {off : Nat} {v : Value} (hx : xs[off]? = some v) : (part e xs off).run P w = .ok v w := by
  cases d <;> simp [scalarD] at hs <;> simp [part, isAgg, run_underlying hu, hx]
theorem eqC_ok {t : TypeId} {d : TypeDesc} (hu : P.underlying t = some d) {c c' : CV} {b : Bool} (e : eqC d c c' some = some b) {u v : Value} (h1 : RepC g w c u) (h2 : RepC g w c' v) (n : Nat) : (Op.equalIn (n + 1) t u v).run P w = .ok b w ∧ scalarD d = true := by
  unfold eqC at e
  split at e
  · rename_i q k x k' y
    obtain ⟨hk, e2⟩ := b_true e
    obtain rfl := of_decide_eq_true hk
    obtain rfl := Option.some.inj e2
    have h1 : RepD g.S w (.int k x) u := h1
    have h2 : RepD g.S w (.int k y) v := h2
    cases h1; cases h2
    exact ⟨run_equalIn_int w n t k q x y hu, rfl⟩
  · rename_i x y
    obtain rfl := Option.some.inj e
    have h1 : RepD g.S w (.bool x) u := h1
    have h2 : RepD g.S w (.bool y) v := h2
    cases h1; cases h2
    exact ⟨run_equalIn_bool w n t x y hu, rfl⟩
  · rename_i x y
    obtain rfl := Option.some.inj e
    have h1 : RepD g.S w (.str x) u := h1
    have h2 : RepD g.S w (.str y) v := h2
    cases h1; cases h2
    exact ⟨run_equalIn_string w n t x y hu, rfl⟩
  · cases e
theorem drop_get {α : Type} {l : List α} {s : Nat} {u : α} {r : List α} (h : l.drop s = u :: r) : l[s]? = some u ∧ l.drop (s + 1) = r := by
  have h1 : (l.drop s)[0]? = some u := by rw [h]; rfl
  rw [List.getElem?_drop] at h1
  refine ⟨by simpa using h1, ?_⟩
  rw [← List.drop_drop, h]; rfl
theorem eqItems_ok {t : TypeId} {d : TypeDesc} (hu : P.underlying t = some d) (n : Nat) (xs ys : List Value) : ∀ (k s : Nat) (cs ds : List CV) (b : Bool), eqCs (List.replicate k d) cs ds some = some b → All2 (RepK g w) cs (xs.drop s) → All2 (RepK g w) ds (ys.drop s) →
    (Op.eqItems (n + 1) t 1 xs.toArray ys.toArray (List.range' s k)).run P w = .ok b w
  | 0, s, cs, ds, b, e, h1, h2 => by
    cases cs <;> cases ds <;> simp [eqCs] at e
    subst e
    simp [Op.eqItems]
  | k + 1, s, cs, ds, b, e, h1, h2 => by
    rw [List.replicate_succ] at e
    cases cs with
    | nil => simp [eqCs] at e
    | cons c cs =>
      cases ds with
      | nil => simp [eqCs] at e
      | cons c' ds =>
        simp only [eqCs] at e
        rw [eqC_nat] at e
        obtain ⟨b1, e1, e2⟩ := Option.bind_eq_some_iff.1 e
        rw [eqCs_nat] at e2
        obtain ⟨b2, e3, e4⟩ := Option.bind_eq_some_iff.1 e2
        obtain rfl := Option.some.inj e4
        generalize hxs : xs.drop s = xr at h1
        generalize hys : ys.drop s = yr at h2
        cases h1 with
        | cons g1 t1 =>
          cases h2 with
          | cons g2 t2 =>
            obtain ⟨p1, q1⟩ := drop_get hxs
            obtain ⟨p2, q2⟩ := drop_get hys
            obtain ⟨r1, hsc⟩ := eqC_ok (P := P) hu e1 g1.1 g2.1 n
            have r2 := eqItems_ok hu n xs ys k (s + 1) cs ds b2 e3 (by rw [q1]; exact t1) (by rw [q2]; exact t2)
            rw [List.range'_succ]
            simp only [Op.eqItems, Sem.run_bind, Nat.mul_one]
            rw [part_one hu hsc (xs := xs.toArray) (off := s) (by simpa using p1)]
            simp only [Result.andThen_ok]
            rw [part_one hu hsc (xs := ys.toArray) (off := s) (by simpa using p2)]
            simp only [Result.andThen_ok, r1]
            cases b1
            · simp
            · simpa using r2
theorem eqFields_ok (hty : ∀ t i, X.ty t = some i → TyOK P t i) (n : Nat) (xs ys : List Value) : ∀ (fs : List Field) (s : Nat) (ts : List TypeDesc) (cs ds : List CV) (b : Bool), fieldDs X s fs = some ts → eqCs ts cs ds some = some b → All2 (RepK g w) cs (xs.drop s) → All2 (RepK g w) ds (ys.drop s) →
    (Op.eqFields (n + 1) xs.toArray ys.toArray fs).run P w = .ok b w ∧ ∀ f ∈ fs, ∀ m, P.eqGuardType (m + 1) f.type = false
  | [], s, ts, cs, ds, b, hd, e, h1, h2 => by
    obtain rfl := Option.some.inj hd
    cases cs <;> cases ds <;> simp [eqCs] at e
    subst e
    simp [Op.eqFields]
  | f :: fs, s, ts, cs, ds, b, hd, e, h1, h2 => by
    simp only [fieldDs] at hd
    obtain ⟨hc, hd2⟩ := b_true hd
    split at hd2
    case h_2 => cases hd2
    rename_i i hi
    split at hd2
    case h_2 => cases hd2
    rename_i l hl
    obtain rfl := Option.some.inj hd2
    simp only [Bool.and_eq_true] at hc
    have ho := beq_true hc.2
    have hu := (hty _ _ hi).und
    cases cs with
    | nil => simp [eqCs] at e
    | cons c cs =>
      cases ds with
      | nil => simp [eqCs] at e
      | cons c' ds =>
        simp only [eqCs] at e
        rw [eqC_nat] at e
        obtain ⟨b1, e1, e2⟩ := Option.bind_eq_some_iff.1 e
        rw [eqCs_nat] at e2
        obtain ⟨b2, e3, e4⟩ := Option.bind_eq_some_iff.1 e2
        obtain rfl := Option.some.inj e4
        generalize hxs : xs.drop s = xr at h1
        generalize hys : ys.drop s = yr at h2
        cases h1 with
        | cons g1 t1 =>
          cases h2 with
          | cons g2 t2 =>
            obtain ⟨p1, q1⟩ := drop_get hxs
            obtain ⟨p2, q2⟩ := drop_get hys
            obtain ⟨r1, hsc⟩ := eqC_ok (P := P) hu e1 g1.1 g2.1 n
            obtain ⟨r2, r3⟩ := eqFields_ok hty n xs ys fs (s + 1) l cs ds b2 hl e3 (by rw [q1]; exact t1) (by rw [q2]; exact t2)
            refine ⟨?_, fun f' hf' m => ?_⟩
            · have hne : f.name ≠ "_" := by simpa using hc.1
              simp only [Op.eqFields, if_pos hne, Sem.run_bind, ho]
              rw [part_one hu hsc (xs := xs.toArray) (off := s) (by simpa using p1)]
              simp only [Result.andThen_ok]
              rw [part_one hu hsc (xs := ys.toArray) (off := s) (by simpa using p2)]
              simp only [Result.andThen_ok, r1]
              cases b1
              · simp
              · simpa using r2
            · rcases List.mem_cons.1 hf' with rfl | hf'
              · unfold Program.eqGuardType
                rw [hu]
                cases hdd : i.desc <;> rw [hdd] at hsc <;> simp [scalarD] at hsc <;> rfl
              · exact r3 f' hf' m
theorem eqAgg_ok (hty : ∀ t i, X.ty t = some i → TyOK P t i) {op : BinOp} {T : TypeId} {cs ds : List CV} {dv : DV} (e : eqAgg X op T cs ds some = some dv) {xs ys : List Value} (h1 : All2 (RepK g w) cs xs) (h2 : All2 (RepK g w) ds ys) :
    ∃ v, (binOp op T (.agg xs.toArray) (.agg ys.toArray)).run P w = .ok v w ∧ RepD g.S w dv v ∧ P.eqGuardType P.depth T = false := by
  unfold eqAgg at e
  split at e
  case h_2 => cases e
  rename_i i hi
  split at e
  case h_2 => cases e
  rename_i ts hts
  have key : ∀ b, eqCs ts cs ds some = some b → (Op.equalIn 10000 T (.agg xs.toArray) (.agg ys.toArray)).run P w = .ok b w ∧ P.eqGuardType P.depth T = false := by
    intro b hb
    have hu := (hty _ _ hi).und
    unfold descsOf at hts
    split at hts
    · rename_i m el hdesc
      rw [hdesc] at hu
      split at hts
      case h_2 => cases hts
      rename_i ei hei
      obtain ⟨hsz0, hts2⟩ := b_true hts
      simp only [Bool.and_eq_true] at hsz0
      have hsz := hsz0.1
      have hm0 := ble_true hsz0.2
      obtain rfl := Option.some.inj hts2
      have hue := (hty _ _ hei).und
      obtain ⟨fi, hfi, hfs, _⟩ := (hty _ _ hei).inf
      have hc1 : P.cellsOf el = 1 := by simp [Program.cellsOf, hfi, hfs, beq_true hsz]
      refine ⟨?_, ?_⟩
      · rw [run_equalIn_array w 9999 _ _ hu hfi, hc1, List.range_eq_range']
        exact eqItems_ok hue 9998 xs ys m 0 cs ds b hb (by simpa using h1) (by simpa using h2)
      · show P.eqGuardType (2 * (P.types.size + Made.depth) + 2) T = false
        unfold Program.eqGuardType
        rw [hu]
        simp only
        cases m with
        | zero =>
          exact absurd hm0 (by simp)
        | succ m =>
          rw [List.replicate_succ] at hb
          cases cs with
          | nil => simp [eqCs] at hb
          | cons c cs =>
            cases ds with
            | nil => simp [eqCs] at hb
            | cons c' ds =>
              simp only [eqCs] at hb
              rw [eqC_nat] at hb
              obtain ⟨b1, e1, _⟩ := Option.bind_eq_some_iff.1 hb
              cases h1 with
              | cons g1 _ =>
                cases h2 with
                | cons g2 _ =>
                  have hsc := (eqC_ok (P := P) hue e1 g1.1 g2.1 0).2
                  unfold Program.eqGuardType
                  rw [hue]
                  cases hdd : ei.desc <;> rw [hdd] at hsc <;> simp [scalarD] at hsc <;> rfl
    · rename_i fs hdesc
      rw [hdesc] at hu
      obtain ⟨hq, hts2⟩ := b_true hts
      have hfo : P.fieldsOf T = fs := by simp [Program.fieldsOf, hu]
      obtain ⟨r1, r2⟩ := eqFields_ok (P := P) (g := g) hty 9998 xs ys fs.toList 0 ts cs ds b hts2 hb (by simpa using h1) (by simpa using h2)
      refine ⟨?_, ?_⟩
      · rw [run_equalIn_struct w 9999 T _ _ (by rw [hfo]; exact hu) ((hty _ _ hi).held hq), hfo]
        exact r1
      · show P.eqGuardType (2 * (P.types.size + Made.depth) + 2) T = false
        unfold Program.eqGuardType
        rw [hu]
        simp only
        rw [Array.any_eq_false']
        intro f hf
        have := r2 f (Array.mem_toList_iff.2 hf) (2 * (P.types.size + Made.depth))
        simp [this]
    · cases hts
  split at e
  · rw [eqCs_nat] at e
    obtain ⟨b, hb, e2⟩ := Option.bind_eq_some_iff.1 e
    obtain rfl := Option.some.inj e2
    obtain ⟨k1, k2⟩ := key b hb
    exact ⟨.bool b, by rw [run_eql_struct, k1]; rfl, .bool b, k2⟩
  · rw [eqCs_nat] at e
    obtain ⟨b, hb, e2⟩ := Option.bind_eq_some_iff.1 e
    obtain rfl := Option.some.inj e2
    obtain ⟨k1, k2⟩ := key b hb
    exact ⟨.bool (!b), by rw [run_neq_struct, k1]; rfl, .bool _, k2⟩
  · cases e
theorem val_binOp (hty : ∀ t i, X.ty t = some i → TyOK P t i) (h : Rel E g s a w) {op : BinOp} {T U : TypeId} {x y : Operand} (ho : o.op = .binOp op T x y U) (e : valF X o s some = some r) : V P o a g w r := by
  unfold valF at e
  simp only [ho] at e
  split at e
  · rename_i cs hcs
    split at e
    case h_2 => cases e
    rename_i ds hds
    rw [eqAgg_nat] at e
    obtain ⟨dv, hdv, hrr⟩ := Option.bind_eq_some_iff.1 e
    obtain rfl := Option.some.inj hrr
    obtain ⟨l1, v1, q1⟩ := aggOf_ok h hcs
    obtain ⟨l2, v2, q2⟩ := aggOf_ok h hds
    obtain ⟨v, k1, k2, k3⟩ := eqAgg_ok hty hdv q1 q2
    refine V.same (v := v) ?_ (RepA.c k2)
    simp [execOp, ho, v1, v2, run_eqGuard_agg w op T x y _ _ k3, k1]
  split at e
  case h_2 => cases e
  rename_i c0 d0 hc hd
  have hx := (evC_ok h hc).pl
  have hy := (evC_ok h hd).pl
  generalize c0.pl = c at hx e
  generalize d0.pl = d at hy e
  have key : ∀ (dv : DV) (v : Value), (∃ z, c = .d z) → (binOp op T (a.eval x) (a.eval y)).run P w = .ok v w → RepD g.S w dv v → some (AV.c (.d dv)) = some r → V P o a g w r := by
    rintro dv v ⟨z, rfl⟩ hr hv hrr
    obtain rfl := Option.some.inj hrr
    refine V.same (v := v) ?_ (RepA.c hv)
    simp [execOp, ho, eqGuard_ok (RepD.one hx) (RepD.not_iface hx), hr]
  unfold bin at e
  split at e
  · rename_i k m k' n
    have e1 : a.eval x = .int k m := by
      have hx' : RepD g.S w (.int k m) (a.eval x) := hx
      generalize a.eval x = v at hx'; cases hx'; rfl
    have e2 : a.eval y = .int k' n := by
      have hx' : RepD g.S w (.int k' n) (a.eval y) := hy
      generalize a.eval y = v at hx'; cases hx'; rfl
    cases hsh : isShift op
    · rw [hsh] at e
      simp only [cond_false] at e
      obtain ⟨hk, e'⟩ := b_true e
      clear e
      obtain rfl : k = k' := by simpa using hk
      rw [binI_nat] at e'
      obtain ⟨dv, hdv, hrr⟩ := Option.bind_eq_some_iff.1 e'
      obtain ⟨v, hr, hv⟩ := bin_ok (P := P) (w := w) (g := g) hsh T hdv
      exact key dv v ⟨_, rfl⟩ (by rw [e1, e2]; exact hr) hv hrr
    · rw [hsh] at e
      simp only [cond_true] at e
      rw [shiftI_nat] at e
      obtain ⟨dv, hdv, hrr⟩ := Option.bind_eq_some_iff.1 e
      obtain ⟨v, hr, hv⟩ := shift_ok (P := P) (w := w) (g := g) (k' := k') hsh T hdv
      exact key dv v ⟨_, rfl⟩ (by rw [e1, e2]; exact hr) hv hrr
  · rename_i m n
    have e1 : a.eval x = .string m := by
      have hx' : RepD g.S w (.str m) (a.eval x) := hx
      generalize a.eval x = v at hx'; cases hx'; rfl
    have e2 : a.eval y = .string n := by
      have hx' : RepD g.S w (.str n) (a.eval y) := hy
      generalize a.eval y = v at hx'; cases hx'; rfl
    rw [binS_nat] at e
    obtain ⟨dv, hdv, hrr⟩ := Option.bind_eq_some_iff.1 e
    obtain ⟨v, hr, hv⟩ := binS_ok (P := P) (w := w) (g := g) T hdv
    exact key dv v ⟨_, rfl⟩ (by rw [e1, e2]; exact hr) hv hrr
  · rename_i m n
    have e1 : a.eval x = .bool m := by
      have hx' : RepD g.S w (.bool m) (a.eval x) := hx
      generalize a.eval x = v at hx'; cases hx'; rfl
    have e2 : a.eval y = .bool n := by
      have hx' : RepD g.S w (.bool n) (a.eval y) := hy
      generalize a.eval y = v at hx'; cases hx'; rfl
    split at e
    case h_2 => cases e
    rename_i i hi
    have hu := (hty _ _ hi).und
    split at e
    case h_2 => cases e
    rename_i hdesc
    rw [hdesc] at hu
    have heq : (Op.equal T (.bool m) (.bool n)).run P w = .ok (m == n) w := by
      rw [show Op.equal T (.bool m) (.bool n) = Op.equalIn (Nat.succ 9999) T (.bool m) (.bool n) from rfl, Op.equalIn]
      rw [Sem.run_bind, run_underlying hu w]
      rfl
    split at e
    · exact key _ (.bool (m == n)) ⟨_, rfl⟩ (by rw [e1, e2]; simp [binOp, heq]) (.bool _) e
    · exact key _ (.bool (!(m == n))) ⟨_, rfl⟩ (by rw [e1, e2]; simp [binOp, heq]) (.bool _) e
    · cases e
  · cases e
theorem val_unOp (h : Rel E g s a w) {op : UnOp} {T : TypeId} {x : Operand} (ho : o.op = .unOp op T x) (e : valF X o s some = some r) : V P o a g w r := by
  unfold valF at e
  simp only [ho] at e
  split at e
  case h_2 => cases e
  rename_i c0 hc
  have hx := (evC_ok h hc).pl
  generalize c0.pl = c at hx e
  unfold un at e
  split at e
  · rename_i k n
    obtain rfl := Option.some.inj e
    have e1 : a.eval x = .int k n := by
      have hx' : RepD g.S w (.int k n) (a.eval x) := hx
      generalize a.eval x = v at hx'; cases hx'; rfl
    exact V.same (v := .int k (k.wrap (0 - n))) (by simp [execOp, ho, e1, Op.unary, Op.intArith]) (RepA.dint _ _)
  · rename_i b
    obtain rfl := Option.some.inj e
    have e1 : a.eval x = .bool b := by
      have hx' : RepD g.S w (.bool b) (a.eval x) := hx
      generalize a.eval x = v at hx'; cases hx'; rfl
    exact V.same (v := .bool (!b)) (by simp [execOp, ho, e1, Op.unary]) (RepA.c (RepD.bool _))
  · rename_i k n
    obtain rfl := Option.some.inj e
    have e1 : a.eval x = .int k n := by
      have hx' : RepD g.S w (.int k n) (a.eval x) := hx
      generalize a.eval x = v at hx'; cases hx'; rfl
    exact V.same (v := .int k (bitsI .xor k (if k.signed then -1 else k.max) n)) (by simp only [execOp, ho, e1, Op.unary, Op.intBits]; rfl) (RepA.dint _ _)
  · cases e
theorem addr_some {c : CV} {p : Nat × Nat} (h : c.addr = some p) : c = .ptr p.1 p.2 none := by
  unfold CV.addr at h
  split at h
  · obtain rfl := Option.some.inj h; rfl
  · cases h
theorem row_form {g : Gh} {w : World} {b o n : Nat} {c : Option Nat} {v : Value} (h : RepC g w (.ptr b o (some (n, c))) v) : ∃ cc, v = .slice (some ⟨g.B b, o, none⟩) n cc ∧ n ≤ cc ∧ ∀ c', c = some c' → cc = c' := by
  rcases c with _ | c
  · obtain ⟨cc, hh, h1⟩ := h; exact ⟨_, hh, h1, fun c' h => by cases h⟩
  · exact ⟨_, h.1, h.2, fun c' h => Option.some.inj h⟩
theorem val_makeFunc (h : Rel E g s a w) {fn : Fn} {first caps : Array Operand} (ho : o.op = .makeFunc fn first caps) (e : valF X o s some = some r) : V P o a g w r := by
  unfold valF at e
  simp only [ho] at e
  split at e
  case h_2 => cases e
  rename_i f l hfst hcaps
  obtain rfl := Option.some.inj e
  clear e
  obtain rfl : first = #[] := Array.ext' hfst
  have : (caps.toList.map a.eval) = l.map fun c => Value.pointer (some ⟨g.B c.1, c.2, none⟩) := by
    clear ho
    generalize caps.toList = q at hcaps
    clear hfst
    induction q generalizing l with
    | nil => obtain rfl := Option.some.inj hcaps; rfl
    | cons x q ih =>
      simp only [capsOf] at hcaps
      split at hcaps
      · rename_i cx hx
        split at hcaps
        · rename_i p hp
          split at hcaps
          · rename_i l' hl'
            obtain rfl := Option.some.inj hcaps
            obtain rfl := addr_some hp
            have hv : a.eval x = .pointer (some ⟨g.B p.1, p.2, none⟩) := evC_ok h hx
            simp [hv, ih l' hl']
          · cases hcaps
        · cases hcaps
      · cases hcaps
  refine V.same (v := .func (.func f) #[] (l.map fun c => Value.pointer (some ⟨g.B c.1, c.2, none⟩)).toArray) ?_ (RepA.c (c := .fn f l) (by show _ = _; rfl))
  have h2 : caps.map a.eval = (l.map fun c => Value.pointer (some ⟨g.B c.1, c.2, none⟩)).toArray := by
    apply Array.ext'
    simpa using this
  simp [execOp, ho, Instr.makeFunc, h2]
theorem fieldF_some {T : TypeId} {f : Nat} {α : Type} {K : Field → TI → Option α} {y : α} (e : fieldF X T f K = some y) :
    ∃ i fs fd fi, X.ty T = some i ∧ i.desc = .struct fs ∧ fs[f]? = some fd ∧ X.ty fd.type = some fi ∧ K fd fi = some y := by
  unfold fieldF at e
  split at e
  case h_2 => cases e
  rename_i i hi
  split at e
  case h_2 => cases e
  rename_i fd hfd
  split at e
  case h_2 => cases e
  rename_i fi hfi
  unfold TI.field? at hfd
  split at hfd
  · rename_i fs hfs
    exact ⟨i, fs, fd, fi, hi, hfs, hfd, hfi, e⟩
  · cases hfd
theorem fieldAt_ok (hty : ∀ t i, X.ty t = some i → TyOK P t i) {T : TypeId} {f : Nat} {i : TI} {fs : Array Field} {fd : Field} {fi : TI} (hi : X.ty T = some i) (hd : i.desc = .struct fs) (hf : fs[f]? = some fd) (hfi : X.ty fd.type = some fi)
    (h1 : 1 ≤ fi.size) (b o' : Nat) : (Instr.fieldAt T (.pointer (some ⟨b, o', none⟩)) f).run P w = .ok (.pointer (some ⟨b, o' + fd.offset, none⟩)) w := by
  have hu := (hty _ _ hi).und
  rw [hd] at hu
  have hs := (hty _ _ hfi).sizeOf (w := w)
  have h0 : ¬ fi.size = 0 := by omega
  simp [Instr.fieldAt, run_underlying hu, hf, Instr.sureAddr, fieldPlace, hs, h0, Addr.add_mid]
theorem val_fieldAddr (hty : ∀ t i, X.ty t = some i → TyOK P t i) (h : Rel E g s a w) {T : TypeId} {x : Operand} {f : Nat} (ho : o.op = .fieldAddr T x f) (e : valF X o s some = some r) : V P o a g w r := by
  unfold valF at e
  simp only [ho] at e
  split at e
  · rename_i b o' hx
    obtain ⟨i, fs, fd, fi, hi, hd, hf, hfi, e⟩ := fieldF_some e
    obtain ⟨h1, e⟩ := b_true e
    obtain rfl := Option.some.inj e
    have hv : a.eval x = .pointer (some ⟨g.B b, o', none⟩) := evC_ok h hx
    exact V.same (v := .pointer (some ⟨g.B b, o' + fd.offset, none⟩)) (by simp [execOp, ho, hv, fieldAt_ok hty hi hd hf hfi (ble_true h1)]) (RepA.c rfl)
  · rename_i row hx
    obtain ⟨i, fs, fd, fi, hi, hd, hf, hfi, e⟩ := fieldF_some e
    obtain ⟨h1, e1⟩ := b_true e
    obtain ⟨h2, e2⟩ := b_true e1
    clear e e1
    obtain rfl := Option.some.inj e2
    obtain ⟨b, o', hv, hS, hc⟩ := evC_ok h hx
    have hle : fd.offset ≤ row.length := of_decide_eq_true h2
    refine V.same (v := .pointer (some ⟨b, o' + fd.offset, none⟩)) (by simp [execOp, ho, hv, fieldAt_ok hty hi hd hf hfi (ble_true h1)]) (RepA.c ⟨b, o' + fd.offset, rfl, ?_, fun j y hj => ?_⟩)
    · simp; omega
    · obtain ⟨u, hu, hr⟩ := hc (fd.offset + j) y (by simpa using hj)
      exact ⟨u, by rw [Nat.add_assoc]; exact hu, hr⟩
  · cases e
theorem val_field (hty : ∀ t i, X.ty t = some i → TyOK P t i) (h : Rel E g s a w) {T : TypeId} {x : Operand} {f : Nat} (ho : o.op = .field T x f) (e : valF X o s some = some r) : V P o a g w r := by
  unfold valF at e
  simp only [ho] at e
  split at e
  case h_2 => cases e
  rename_i cs hx
  obtain ⟨i, fs, fd, fi, hi, hd, hf, hfi, e⟩ := fieldF_some e
  obtain ⟨l, hv, hl⟩ := aggOf_ok h hx
  have hu := (hty _ _ hi).und
  rw [hd] at hu
  have hT := hty _ _ hfi
  have key : ∀ v, (part fd.type l.toArray fd.offset).run P w = .ok v w → RepA g w r v → V P o a g w r := fun v hr hvv =>
    V.same (v := v) (by simp [execOp, ho, hv, Instr.field, run_underlying hu, hf, asAgg, hr]) hvv
  cases ha : fi.agg
  · rw [ha] at e
    simp only [cond_false] at e
    split at e
    case h_2 => cases e
    rename_i c hc
    obtain rfl := Option.some.inj e
    obtain ⟨u, hu', hr⟩ := hl.get _ _ hc
    exact key u (by simp [part, hT.not_agg ha, hu']) (RepA.c hr.1)
  · rw [ha] at e
    simp only [cond_true] at e
    obtain ⟨h1, e⟩ := b_true e
    obtain rfl := Option.some.inj e
    refine key (.agg (l.toArray.extract fd.offset (fd.offset + fi.size))) (by simp [part, hT.is_agg ha, hT.sizeOf]) ⟨(l.drop fd.offset).take fi.size, ?_, (hl.drop _).take _⟩
    congr 1
    apply Array.ext'
    simp
theorem val_index (hty : ∀ t i, X.ty t = some i → TyOK P t i) (h : Rel E g s a w) {T : TypeId} {x ix : Operand} (ho : o.op = .index T x ix) (e : valF X o s some = some r) : V P o a g w r := by
  unfold valF at e
  simp only [ho] at e
  split at e
  case h_2 => cases e
  rename_i i c k n hi hx hn
  split at e
  case h_2 => cases e
  rename_i b hdesc hdv
  have hu := (hty _ _ hi).und
  rw [hdesc] at hu
  have hv : a.eval x = .string b := by
    have hx' : RepD g.S w (.str b) (a.eval x) := (evC_ok h hx).dv hdv
    generalize a.eval x = v at hx'; cases hx'; rfl
  have hiv := evI_ok h hn
  unfold nth at e
  obtain ⟨h0, e⟩ := b_true e
  split at e
  case h_2 => cases e
  rename_i c hc
  obtain rfl := Option.some.inj e
  have h0' : 0 ≤ n := by simpa [leI_eq] using h0
  have hlt : n.toNat < b.size := by
    have := (List.getElem?_eq_some_iff.1 hc).1
    simpa using this
  have hget : b[n.toNat]? = some c := by
    rw [ByteArray.getElem?_lt' b n.toNat hlt]
    congr 1
    have := (List.getElem?_eq_some_iff.1 hc).2
    rw [← this]
    rfl
  exact V.same (v := .int .u8 c.toNat) (by simp [execOp, ho, hv, hiv, Instr.index, asIntOf, run_underlying hu, h0', hget]) (RepA.dint _ _)
theorem val_indexAddr (hty : ∀ t i, X.ty t = some i → TyOK P t i) (h : Rel E g s a w) {T : TypeId} {x ix : Operand} (ho : o.op = .indexAddr T x ix) (e : valF X o s some = some r) : V P o a g w r := by
  unfold valF at e
  simp only [ho] at e
  split at e
  case h_2 => cases e
  rename_i c0 k n hx hn
  have hxv := (evC_ok h hx).pl
  generalize c0.pl = c at hxv e
  have hiv := evI_ok h hn
  unfold ixAddrF at e
  split at e
  case h_2 => cases e
  rename_i i hi
  have hu := (hty _ _ hi).und
  split at e
  · rename_i el hdesc
    rw [hdesc] at hu
    split at e
    case h_2 => cases e
    rename_i ei hei
    have hs := (hty _ _ hei).sizeOf (w := w)
    have key : ∀ (b o' len cap : Nat), a.eval x = .slice (some ⟨b, o', none⟩) len cap → 0 ≤ n → n < len → (Instr.indexAt T (a.eval x) (a.eval ix)).run P w = .ok (.pointer (some ⟨b, o' + n.toNat * ei.size, none⟩)) w := by
      intro b o' len cap hv h0 h1
      simp [hv, hiv, Instr.indexAt, asIntOf, run_underlying hu, h0, h1, hs, Addr.add_mid]
    split at e
    · rename_i kk l hdv
      have hd := RepC.dv hxv hdv
      obtain ⟨hsz, e⟩ := b_true e
      have hsz := beq_true hsz
      unfold nth at e
      obtain ⟨h0, e⟩ := b_true e
      have h0' : 0 ≤ n := by simpa [leI_eq] using h0
      split at e
      case h_2 => cases e
      rename_i m hm
      obtain rfl := Option.some.inj e
      generalize hxe : a.eval x = v at hd
      have hlt := (List.getElem?_eq_some_iff.1 hm).1
      cases hd with
      | ints0 => simp at hlt
      | ints _ _ b o' cap hc hS hcell =>
        have hr := key b o' l.length cap hxe h0' (by omega)
        rw [hxe] at hr
        refine V.same (v := .pointer (some ⟨b, o' + n.toNat * ei.size, none⟩)) (by simp [execOp, ho, hxe, hr]) (RepA.c ⟨b, _, rfl, ?_, fun j y hj => ?_⟩)
        · rw [hsz]; simp; omega
        · rw [hsz, Nat.mul_one]
          cases j with
          | zero => simp at hj; subst hj; exact ⟨_, hcell _ _ hm, .int _ _⟩
          | succ j => simp at hj
    · rename_i z xs hdv
      have hd := RepC.dv hxv hdv
      obtain ⟨hsz, e⟩ := b_true e
      have hsz := beq_true hsz
      unfold nth at e
      obtain ⟨h0, e⟩ := b_true e
      have h0' : 0 ≤ n := by simpa [leI_eq] using h0
      split at e
      case h_2 => cases e
      rename_i row hm
      obtain rfl := Option.some.inj e
      generalize hxe : a.eval x = v at hd
      have hlt := (List.getElem?_eq_some_iff.1 hm).1
      cases hd with
      | sl0 => simp at hlt
      | sl _ _ b o' cap vals hz hc hS hrow hcell hcx =>
        have hr := key b o' xs.length cap hxe h0' (by omega)
        rw [hxe] at hr
        have hrl := hrow row (List.mem_of_getElem? hm)
        have hmul : n.toNat * z + z ≤ xs.length * z := by
          rw [← Nat.succ_mul]; exact Nat.mul_le_mul_right _ hlt
        refine V.same (v := .pointer (some ⟨b, o' + n.toNat * ei.size, none⟩)) (by simp [execOp, ho, hxe, hr]) (RepA.c ⟨b, _, rfl, ?_, fun j y hj => ?_⟩)
        · rw [hsz, hrl]; omega
        · have hjl := (List.getElem?_eq_some_iff.1 hj).1
          rw [hsz, Nat.add_assoc]
          exact ⟨_, hcell (n.toNat * z + j) (by omega), hcx _ _ _ _ hm hj⟩
    · split at e
      · rename_i b o' len cc _ _
        obtain ⟨h0, e⟩ := b_true e
        obtain ⟨h1, e⟩ := b_true e
        obtain rfl := Option.some.inj e
        have h0' : 0 ≤ n := by simpa [leI_eq] using h0
        have h1' : n < len := by simpa [ltI_eq] using h1
        obtain ⟨cap, hxe, _, _⟩ := row_form hxv
        have hr := key _ _ _ _ hxe h0' h1'
        rw [hxe] at hr
        exact V.same (v := .pointer (some ⟨g.B b, o' + n.toNat * ei.size, none⟩)) (by simp [execOp, ho, hxe, hr]) (RepA.c rfl)
      · cases e
  · rename_i len el hdesc
    rw [hdesc] at hu
    split at e
    case h_2 => cases e
    rename_i ei b o' hei
    have hs := (hty _ _ hei).sizeOf (w := w)
    obtain ⟨h0, e⟩ := b_true e
    obtain ⟨h1, e⟩ := b_true e
    obtain rfl := Option.some.inj e
    have h0' : 0 ≤ n := by simpa [leI_eq] using h0
    have h1' : n < len := by simpa [ltI_eq] using h1
    have hv : a.eval x = .pointer (some ⟨g.B b, o', none⟩) := hxv
    exact V.same (v := .pointer (some ⟨g.B b, o' + n.toNat * ei.size, none⟩)) (by simp [execOp, ho, hv, hiv, Instr.indexAt, asIntOf, run_underlying hu, Instr.sureAddr, h0', h1', hs, Addr.add_mid]) (RepA.c rfl)
  · cases e
end
end Go.Proofs.Ythmdefgepnkgiaa.Eng
