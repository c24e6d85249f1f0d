/- All operations that only look: what they tell is what the machine comes to. Conditions: the relation between the two states; the types' table is the program's. -/
import Derived.Test.YthmdefgepnkgiaaE8
import Derived.Laws.IdiomStrings
namespace Go.Proofs.Ythmdefgepnkgiaa.Eng
open Go
section
variable {P : Program} {X : Ctx} {E : Ent} {g : Gh} {s : St} {a : Act} {w : World} {o : Oper} {r : AV}
theorem push_bytes : ∀ (l : List Int) (b : ByteArray), l.foldl (fun r n => r.push (UInt8.ofNat n.toNat)) b = ⟨(b.data.toList ++ l.map fun n => n.toNat.toUInt8).toArray⟩
  | [], b => by simp
  | n :: l, b => by
    rw [List.foldl_cons, push_bytes l]
    apply ByteArray.ext
    simp [ByteArray.push]
theorem val_convert (hty : ∀ t i, X.ty t = some i → TyOK P t i) (h : Rel E g s a w) {S T : TypeId} {x : Operand} (ho : o.op = .convert S T x) (e : valF X o s some = some r) : V P o a g w r := by
  unfold valF at e
  simp only [ho] at e
  split at e
  case h_2 => cases e
  rename_i c0 hc
  have hcv := (evC_ok h hc).pl
  generalize c0.pl = c at hcv e
  unfold conv at e
  split at e
  case h_2 => cases e
  rename_i i j hi hj
  have hui := (hty _ _ hi).und
  have huj := (hty _ _ hj).und
  split at e
  · rename_i k1 k2 k3 n hd1 hd2
    rw [hd1] at hui
    rw [hd2] at huj
    obtain rfl := Option.some.inj e
    have e1 : a.eval x = .int k3 n := by
      have hx' : RepD g.S w (.int k3 n) (a.eval x) := hcv
      generalize a.eval x = v at hx'; cases hx'; rfl
    exact V.same (v := .int k2 (k2.wrap n)) (by simp [execOp, ho, e1, convert, run_underlying hui, run_underlying huj, Conv.intToInt]) (RepA.dint _ _)
  · rename_i b hd1 hd2
    rw [hd1] at hui
    rw [hd2] at huj
    obtain rfl := Option.some.inj e
    have e1 : a.eval x = .string b := by
      have hx' : RepD g.S w (.str b) (a.eval x) := hcv
      generalize a.eval x = v at hx'; cases hx'; rfl
    exact V.same (v := .string b) (by simp [execOp, ho, e1, convert, run_underlying hui, run_underlying huj]) (RepA.c (RepD.str _))
  · rename_i el c' hd1 hd2
    rw [hd1] at hui
    rw [hd2] at huj
    split at e
    case h_2 => cases e
    rename_i ie l hie hdv
    split at e
    case h_2 => cases e
    rename_i hd3
    have hue := (hty _ _ hie).und
    rw [hd3] at hue
    obtain ⟨_, e⟩ := b_true e
    obtain rfl := Option.some.inj e
    have hd := RepC.dv hcv hdv
    generalize hxe : a.eval x = v at hd
    have key : (convert S T v).run P w = .ok (.string (bytesOf l)) w := by
      cases hd with
      | ints0 _ ad cc =>
        rw [run_convert_bytes_string w S T _ ad 0 cc hui hue huj]
        cases ad with
        | none =>
          simp [Conv.bytesToString, bytesOf]
          rfl
        | some ad =>
          rw [run_bytesToString w ad 0 cc [] (by simp [loadCells, loadCellsFrom])]
          simp [bytesOf]
          rfl
      | ints _ _ b o' cc hcap hS hcell =>
        rw [run_convert_bytes_string w S T _ _ _ cc hui hue huj]
        rw [run_bytesToString w _ _ cc l (by
          have := run_loadCells_list (P := P) w ⟨b, o', none⟩ (l.map (Value.int .u8)) (fun j u hj => by
            rw [List.getElem?_map] at hj
            obtain ⟨n, hn, rfl⟩ := Option.map_eq_some_iff.1 hj
            rw [Addr.add_mid]; exact hcell j n hn)
          simpa using this)]
        rw [push_bytes]
        simp [bytesOf]
    exact V.same (v := .string (bytesOf l)) (by simp [execOp, ho, hxe, key]) (RepA.c (RepD.str _))
  · rename_i el b hd1 hd2
    rw [hd1] at hui
    rw [hd2] at huj
    split at e
    case h_2 => cases e
    rename_i ie hie
    split at e
    case h_2 => cases e
    rename_i hd3
    have hue := (hty _ _ hie).und
    rw [hd3] at hue
    obtain ⟨_, e⟩ := b_true e
    obtain rfl := Option.some.inj e
    have e1 : a.eval x = .string b := by
      have hx' : RepD g.S w (.str b) (a.eval x) := hcv
      generalize a.eval x = v at hx'; cases hx'; rfl
    have hst := (Stay.drew g w).ok E h.ok
    have hge := grownCap_ge w b.size 0 el
    refine ⟨.slice (some ⟨w.heap.size, 0, none⟩) b.size (grownCap w b.size 0 el), w.drew.alloc (.cells (bytesRow b (grownCap w b.size 0 el)) el ((bytesRow b (grownCap w b.size 0 el)).size, (bytesRow b (grownCap w b.size 0 el)).size + 1)), g.new w.drew.heap.size b.size none, ?_, (Stay.drew g w).trans (Stay.new hst _ _ _), RepA.c ?_⟩
    · simp only [execOp, ho, e1, Sem.run_bind, run_bytes_of_string w S T el b hui huj hue, Result.andThen_ok, Sem.run_pure]
    · have hl : (intsOf b).length = b.size := by simp [intsOf]
      generalize grownCap w b.size 0 el = C at *
      rw [← hl]
      refine RepD.ints .u8 (intsOf b) _ 0 _ (by omega) (by simp [Gh.new, upd_same]) fun j n hj => ?_
      have hjl : j < b.size := by rw [← hl]; exact (List.getElem?_eq_some_iff.1 hj).1
      rw [Nat.zero_add, cell_of_row _ _ _ _ _ _ (show (w.drew.alloc (.cells (bytesRow b C) el ((bytesRow b C).size, (bytesRow b C).size + 1))).heap[w.heap.size]? = _ from heap_alloc_new w.drew _)]
      simp only [intsOf, List.getElem?_map, Option.map_eq_some_iff] at hj
      obtain ⟨c, hc, rfl⟩ := hj
      have hjd : j < b.data.size := hjl
      have hc' : b.data[j] = c := by
        have := (List.getElem?_eq_some_iff.1 hc).2
        simpa using this
      simp [bytesRow, Array.getElem?_append, hjl]
      rw [hc']
  · cases e
theorem made_get (z : Array Value) (hz : 0 < z.size) (n j : Nat) (hj : j < n) : (madeCells z n)[j]? = z[j % z.size]? := by
  have hlt : j % z.size < z.size := Nat.mod_lt _ hz
  simp [madeCells, hj, hlt]
theorem flat_rep {α : Type} (l : List α) : ∀ (n j : Nat), j < n * l.length → (List.replicate n l).flatten[j]? = l[j % l.length]?
  | 0, j, h => by simp at h
  | n + 1, j, h => by
    rw [List.replicate_succ, List.flatten_cons]
    by_cases hj : j < l.length
    · rw [List.getElem?_append_left hj, Nat.mod_eq_of_lt hj]
    · rw [List.getElem?_append_right (by omega), flat_rep l n (j - l.length) (by rw [Nat.succ_mul] at h; omega)]
      congr 1
      conv => rhs; rw [show j = (j - l.length) + l.length by omega, Nat.add_mod_right]
theorem rep_flat {z : List DV} {vs : List Value} (h : All2 (RepD g.S w) z vs) : ∀ n, All2 (RepD g.S w) (List.replicate n z).flatten (List.replicate n vs).flatten
  | 0 => .nil
  | n + 1 => by
    rw [List.replicate_succ, List.replicate_succ, List.flatten_cons, List.flatten_cons]
    exact h.append (rep_flat h n)
theorem TI.elem_desc {i : TI} {el : TypeId} (hel : i.elem? = some el) : i.desc = .slice el := by
  unfold TI.elem? at hel
  split at hel
  · rename_i hq; obtain rfl := Option.some.inj hel; exact hq
  · cases hel
theorem new_makeSlice (hty : ∀ t i, X.ty t = some i → TyOK P t i) (h : Rel E g s a w) {T : TypeId} {x y : Operand} (ho : o.op = .makeSlice T x y) (e : valF X o s some = some r) : VN P o a g w r := by
  unfold valF at e
  simp only [ho] at e
  split at e
  case h_2 => cases e
  rename_i kx n ky c hx hy
  have ex := evI_ok h hx
  have ey := evI_ok h hy
  rw [makeF_nat] at e
  obtain ⟨d, hd, hr⟩ := Option.bind_eq_some_iff.1 e
  obtain rfl := Option.some.inj hr
  unfold makeF at hd
  split at hd
  case h_2 => cases hd
  rename_i i hi
  split at hd
  case h_2 => cases hd
  rename_i el hel
  split at hd
  case h_2 => cases hd
  rename_i ei hei
  obtain ⟨h0, hd⟩ := b_true hd
  obtain ⟨h1, hd⟩ := b_true hd
  obtain ⟨h2, hd⟩ := b_true hd
  obtain ⟨h3, hd⟩ := b_true hd
  simp only [Bool.and_eq_true] at h3
  simp [leI_eq] at h0 h1 h2
  have hzl := beq_true h3.1.1
  have hsz := ble_true h3.1.2
  have hby := ble_true h3.2
  split at hd
  case h_2 => cases hd
  rename_i x' hx'
  obtain rfl := Option.some.inj hd
  have hu := (hty _ _ hi).und
  rw [TI.elem_desc hel] at hu
  obtain ⟨f, hf, hfs, hfb, hfz⟩ := (hty _ _ hei).inf
  obtain ⟨z, hz1, hz2⟩ := hfz hzl.symm
  have hzs := zsame_ok (g := g) (w := w) hz2
  have hzlen : z.cells.size = ei.size := by rw [hzl, hzs.length]; simp
  have hrun := run_make (P := P) w T el f z hu hf hz1 kx ky n c h0 h1 (by rw [hfb, Int.mul_comm]; omega) (by
    have : (c : Int) * 1 ≤ c * ei.bytes := Int.mul_le_mul_of_nonneg_left (by omega) (by omega)
    omega)
  have hlen : (List.replicate n.toNat ei.zero).length = n.toNat := by simp
  refine ⟨ei, _, _, _, madeCells z.cells (c.toNat * f.size), el, c.toNat, _, rfl, hx', rep_flat hzs n.toNat, ?_, by rw [hlen]; omega, by rw [hfs]; simp [madeCells], by rw [hlen]; simp [execOp, ho, ex, ey, hrun]⟩
  · intro j v hj
    have hjl : j < n.toNat * z.cells.toList.length := by
      have := (List.getElem?_eq_some_iff.1 hj).1
      simpa using this
    rw [flat_rep _ _ _ hjl] at hj
    have hle : n.toNat * ei.size ≤ c.toNat * ei.size := Nat.mul_le_mul_right _ (by omega)
    simp only [Array.length_toList, hzlen] at hjl hj
    rw [made_get z.cells (by omega) _ j (by rw [hfs]; omega), hzlen]
    simpa using hj
theorem val_makeSlice (hty : ∀ t i, X.ty t = some i → TyOK P t i) (h : Rel E g s a w) {T : TypeId} {x y : Operand} (ho : o.op = .makeSlice T x y) (e : valF X o s some = some r) : V P o a g w r :=
  (new_makeSlice hty h ho e).V h.ok
theorem places_map : ∀ (fs : List Field), (∀ f ∈ fs, ∃ i, X.ty f.type = some i) → (∀ t i, X.ty t = some i → TyOK P t i) → ∃ pl, fs.mapM (fun f => (P.info? f.type).map fun i => (f.offset, i.size)) = some pl ∧
    ∀ (k : Nat) (fd : Field) (fi : TI), fs[k]? = some fd → X.ty fd.type = some fi → pl[k]? = some (fd.offset, fi.size)
  | [], _, _ => ⟨[], rfl, fun k fd fi h => by simp at h⟩
  | f :: fs, hf, hty => by
    obtain ⟨i, hi⟩ := hf f (by simp)
    obtain ⟨inf, hinf, hs, _⟩ := (hty _ _ hi).inf
    obtain ⟨pl, hpl, hg⟩ := places_map fs (fun q hq => hf q (by simp [hq])) hty
    refine ⟨(f.offset, i.size) :: pl, ?_, fun k fd fi hk hfi => ?_⟩
    · simp [List.mapM_cons, hinf, hpl, hs]
    · cases k with
      | zero => simp at hk; subst hk; rw [hi] at hfi; obtain rfl := Option.some.inj hfi; rfl
      | succ k => simpa using hg k fd fi (by simpa using hk) hfi
theorem fill_ok (h : Rel E g s a w) {i : TI} {d : Nat} {place : Nat → Option (Nat × Nat)} (hp : ∀ f t off size, placeOf X i f = some (t, off, size) → place f = some (off, size)) :
    ∀ {parts : List (Nat × Operand)} {cells cs : List CV} {l : List Value}, fillOf X s d i cells parts = some cs → All2 (RepK g w) cells l →
      ∃ l', Instr.fill place l.toArray (parts.map fun p => (p.1, a.eval p.2)) = some (List.toArray l') ∧ All2 (RepK g w) cs l'
  | [], cells, cs, l, e, hl => by obtain rfl := Option.some.inj e; exact ⟨l, rfl, hl⟩
  | (f, x) :: parts, cells, cs, l, e, hl => by
    simp only [fillOf] at e
    split at e
    case h_2 => cases e
    rename_i t off size hpl
    split at e
    case h_2 => cases e
    rename_i ag cv hx
    obtain ⟨hb, e⟩ := b_true e
    simp only [Bool.and_eq_true] at hb
    have hc := cells_ok (ev_ok h hx) hb.1.2
    have h1 := beq_true hb.1.1
    have h2 := ble_true hb.2
    have hll := hl.length
    have hcl := hc.length
    simp only [Array.length_toList] at hcl
    obtain ⟨l', h3, h4⟩ := fill_ok h hp e (hc.setAt off hl)
    refine ⟨l', ?_, h4⟩
    rw [List.map_cons, fill_step place l.toArray f (a.eval x) _ off size (hp _ _ _ _ hpl) (by omega) (by simp; omega)]
    simpa using h3
theorem val_build (hty : ∀ t i, X.ty t = some i → TyOK P t i) (h : Rel E g s a w) {T : TypeId} {parts : Array (Nat × Operand)} (ho : o.op = .build T parts) (e : valF X o s some = some r) : V P o a g w r := by
  unfold valF at e
  simp only [ho] at e
  split at e
  case h_2 => cases e
  rename_i i hi
  obtain ⟨hb, e⟩ := b_true e
  simp only [Bool.and_eq_true] at hb
  have hb : (Nat.beq i.zero.length i.size = true ∧ placesOk X i = true) := hb.1
  have hzl := beq_true hb.1
  split at e
  case h_2 => cases e
  rename_i cs hcs
  obtain rfl := Option.some.inj e
  have hu := (hty _ _ hi).und
  obtain ⟨f, hf, hfs, hfb, hfz⟩ := (hty _ _ hi).inf
  obtain ⟨z, hz1, hz2⟩ := hfz hzl
  have hz := zeroCs_ok (g := g) (w := w) (o.dst.getD 0) 0 hz2
  have key : ∀ place : Nat → Option (Nat × Nat), (∀ f t off size, placeOf X i f = some (t, off, size) → place f = some (off, size)) →
      (∀ cells, Instr.fill place z.cells (parts.toList.map fun p => (p.1, a.eval p.2)) = some cells → P.built T (parts.map fun (i, x) => (i, a.eval x)).toList = some cells) → V P o a g w (.one true cs) := by
    intro place hp hbuilt
    obtain ⟨l', h1, h2⟩ := fill_ok h hp hcs hz
    have hb := hbuilt l'.toArray (by simpa using h1)
    have hr := run_build (P := P) w T _ _ hb
    exact V.same (v := .agg l'.toArray) (by simp [execOp, ho, hr]) ⟨l', rfl, h2⟩
  unfold placesOk at hb
  cases hd : i.desc with
  | struct fs =>
    rw [hd] at hu hb
    simp only at hb
    obtain ⟨pl, hpl, hg⟩ := places_map (P := P) (X := X) fs.toList (fun q hq => Option.isSome_iff_exists.1 (List.all_eq_true.1 hb.2 q hq)) hty
    refine key (pl.toArray[·]?) (fun k t off size hk => ?_) (fun cells hc => ?_)
    · unfold placeOf at hk
      rw [hd] at hk
      simp only at hk
      split at hk
      case h_2 => cases hk
      rename_i fd hfd
      split at hk
      case h_2 => cases hk
      rename_i fi hfi
      simp only [Option.some.injEq, Prod.mk.injEq] at hk
      obtain ⟨rfl, rfl, rfl⟩ := hk
      simpa using hg k fd fi (by simpa using hfd) hfi
    · unfold Program.built
      rw [hf, hu]
      simp only [hz1, hpl]
      rw [← hc]
      congr 1
      simp
  | array n el =>
    rw [hd] at hu hb
    simp only at hb
    obtain ⟨ei, hei⟩ := Option.isSome_iff_exists.1 hb.2
    obtain ⟨ie, hie, hies, _⟩ := (hty _ _ hei).inf
    refine key (fun i => some (i * ie.size, ie.size)) (fun k t off size hk => ?_) (fun cells hc => ?_)
    · unfold placeOf at hk
      rw [hd] at hk
      simp only [hei, Option.some.injEq, Prod.mk.injEq] at hk
      obtain ⟨rfl, rfl, rfl⟩ := hk
      rw [hies]
    · unfold Program.built
      rw [hf, hu]
      simp only [hz1, hie]
      rw [← hc]
      congr 1
      simp
  | _ => rw [hd] at hb; simp at hb
/-- ALL OPERATIONS THAT ONLY LOOK. -/
theorem val_ok (hty : ∀ t i, X.ty t = some i → TyOK P t i) (h : Rel E g s a w) (e : valF X o s some = some r) : V P o a g w r := by
  cases ho : o.op with
  | move x =>
    unfold valF at e; simp only [ho] at e
    split at e
    · rename_i v hv; obtain rfl := Option.some.inj e; exact val_move h (.inl ho) hv
    · cases e
  | assign x =>
    unfold valF at e; simp only [ho] at e
    split at e
    · rename_i v hv; obtain rfl := Option.some.inj e; exact val_move h (.inr ho) hv
    · cases e
  | pick c x y => exact val_pick h ho e
  | build T ps => exact val_build hty h ho e
  | buildSlice T n ps => exact val_buildSlice hty h ho e
  | load T p =>
    unfold valF at e; simp only [ho] at e
    split at e
    · rename_i i pc hi hp; exact val_load hty h ho hi hp e
    · cases e
  | nilCheck x => exact val_nilCheck h ho e
  | binOp op T x y U => exact val_binOp hty h ho e
  | unOp op T x => exact val_unOp h ho e
  | convert S T x => exact val_convert hty h ho e
  | makeFunc f x y => exact val_makeFunc h ho e
  | makeSlice T x y => exact val_makeSlice hty h ho e
  | slice T x lo hi mx => exact val_slice hty h ho e
  | fieldAddr T x f => exact val_fieldAddr hty h ho e
  | field T x f => exact val_field hty h ho e
  | indexAddr T x i => exact val_indexAddr hty h ho e
  | index T x i => exact val_index hty h ho e
  | extract x i => exact val_extract h ho e
  | call c =>
    have hl : c.callee = .builtin .len ∨ c.callee = .builtin .min := by
      unfold valF at e; simp only [ho] at e
      split at e
      · rename_i b hb
        split at e
        · exact .inl hb
        · exact .inr hb
        · cases e
      · cases e
    rcases hl with hl | hl
    · exact val_len hty h ho hl e
    · exact val_min h ho hl e
  | _ => unfold valF at e; simp only [ho] at e; cases e
end
end Go.Proofs.Ythmdefgepnkgiaa.Eng
