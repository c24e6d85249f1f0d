/- A box becomes a row that stays; a row becomes a box. Conditions: the relation between the two states. -/
import Derived.Test.YthmdefgepnkgiaaE14j
namespace Go.Proofs.Ythmdefgepnkgiaa.Eng
open Go
section
variable {P : Program} {X : Ctx} {E : Ent} {g : Gh} {s s' : St} {a : Act} {w : World}
theorem allD_get : ∀ {cs : List CV} {row : List DV}, allD cs = some row → cs.length = row.length ∧ ∀ (j : Nat) (x : DV), row[j]? = some x → ∃ c, cs[j]? = some c ∧ c.dv = some x
  | [], row, h => by obtain rfl := Option.some.inj h; simp
  | c :: r, row, h => by
    simp only [allD] at h
    split at h
    case h_2 => cases h
    rename_i x hx
    split at h
    case h_2 => cases h
    rename_i l hl
    obtain rfl := Option.some.inj h
    obtain ⟨h1, h2⟩ := allD_get hl
    refine ⟨by simp [h1], fun j y hj => ?_⟩
    cases j with
    | zero => simp at hj; subst hj; exact ⟨c, rfl, hx⟩
    | succ j => simpa using h2 j y (by simpa using hj)
theorem chunks_flat (z : Nat) : ∀ (n : Nat) (l : List DV), l.length = n * z → (chunks z n l).flatten = l
  | 0, l, h => by
    have : l = [] := List.eq_nil_of_length_eq_zero (by omega)
    subst this; rfl
  | n + 1, l, h => by
    rw [Nat.succ_mul] at h
    rw [chunks, List.flatten_cons, chunks_flat z n (l.drop z) (by simp; omega), List.take_append_drop]
theorem chunks_len (z : Nat) : ∀ (n : Nat) (l : List DV), (chunks z n l).length = n
  | 0, _ => rfl
  | n + 1, l => by rw [chunks, List.length_cons, chunks_len z n]
/-- What stands in a row's cells, as a row. -/
theorem part_rep {S : Nat → Nat} {i : TI} {row : List DV} {m : Nat} {x : DV} (hx : rowOf i (chunks i.size m row) = some x) (hm : row.length = m * i.size) {b : Nat} (hS : row.length ≤ S b)
    (hc : ∀ (j : Nat) (y : DV), row[j]? = some y → ∃ u, w.cell? ⟨b, 0 + j, none⟩ = some u ∧ RepD S w y u) {o n cc : Nat} (hn : n ≤ cc) {y : DV} (hy : partRow o n x = .d y) : RepD S w y (.slice (some ⟨b, o, none⟩) n cc) := by
  have hsh := rowOf_shape hx
  have hfl := chunks_flat i.size m row hm
  have hlen := chunks_len i.size m row
  unfold rowOf at hx
  split at hx
  · rename_i k _
    obtain ⟨hs, hx⟩ := b_true hx
    split at hx
    · rename_i l hl
      obtain rfl := Option.some.inj hx
      have hr := intsIn_flat hl
      simp only [partRow] at hy
      cases hb : Nat.ble (o + n) l.length
      · rw [hb] at hy; cases hy
      rw [hb] at hy
      have hy : CV.d (.ints k ((l.drop o).take n)) = .d y := hy
      obtain rfl : DV.ints k ((l.drop o).take n) = y := by injection hy
      have hle := ble_true hb
      have hll : ((l.drop o).take n).length = n := by simp; omega
      have hrow : row = l.map (DV.int k) := by
        rw [← hfl, hr]
        have key : ∀ l : List Int, (List.map (fun n => [DV.int k n]) l).flatten = List.map (DV.int k) l := by
          intro l
          induction l with
          | nil => rfl
          | cons a l ih => rw [List.map_cons, List.map_cons, List.flatten_cons, ih]; rfl
        exact key l
      rw [show (Value.slice (some ⟨b, o, none⟩) n cc) = Value.slice (some ⟨b, o, none⟩) ((l.drop o).take n).length cc by rw [hll]]
      refine .ints k _ b o cc (by rw [hll]; exact hn) (by rw [hll]; rw [hrow] at hS; simp at hS; omega) fun j v hj => ?_
      rw [List.getElem?_take] at hj
      split at hj
      · rw [List.getElem?_drop] at hj
        obtain ⟨u, hu, hk⟩ := hc (o + j) (.int k v) (by rw [hrow, List.getElem?_map, hj]; rfl)
        rw [Nat.zero_add] at hu
        cases hk
        exact hu
      · cases hj
    · cases hx
  · cases hs : Nat.beq i.size 0
    · rw [hs] at hx
      obtain ⟨_, hx⟩ := b_true hx
      obtain rfl := Option.some.inj hx
      simp only [partRow] at hy
      cases hb : (Nat.beq (o % i.size) 0 && Nat.ble (o / i.size + n) (chunks i.size m row).length)
      · rw [hb] at hy; cases hy
      rw [hb] at hy
      have hy : CV.d (.sl i.size (((chunks i.size m row).drop (o / i.size)).take n)) = .d y := hy
      obtain rfl : DV.sl i.size (((chunks i.size m row).drop (o / i.size)).take n) = y := by injection hy
      simp only [Bool.and_eq_true] at hb
      have h0 := beq_true hb.1
      have hle := ble_true hb.2
      have ho : o = o / i.size * i.size := by
        have := Nat.div_add_mod o i.size
        rw [h0, Nat.mul_comm] at this; omega
      rw [hlen] at hle
      have hll : (((chunks i.size m row).drop (o / i.size)).take n).length = n := by simp [hlen]; omega
      have hmul : o + n * i.size ≤ row.length := by
        rw [hm, ho, ← Nat.add_mul]; exact Nat.mul_le_mul_right _ hle
      rw [show (Value.slice (some ⟨b, o, none⟩) n cc) = Value.slice (some ⟨b, o, none⟩) (((chunks i.size m row).drop (o / i.size)).take n).length cc by rw [hll]]
      refine .sl i.size _ b o cc (fun j => (w.cell? ⟨b, o + j, none⟩).getD undef) hsh.2.2.1 (by rw [hll]; exact hn) (by rw [hll]; omega) (fun r hr => hsh.2.2.2 r (List.mem_of_mem_drop (List.mem_of_mem_take hr))) (fun j hj => ?_) (fun ii r j y hii hj => ?_)
      · rw [hll] at hj
        have hlt : o + j < row.length := by omega
        obtain ⟨u, hu, _⟩ := hc (o + j) _ (List.getElem?_eq_getElem hlt)
        rw [Nat.zero_add] at hu
        rw [hu]; rfl
      · rw [List.getElem?_take] at hii
        split at hii
        · rw [List.getElem?_drop] at hii
          have hf := flat_get (z := i.size) (chunks i.size m row) hsh.2.2.2 (o / i.size + ii) r j y hii hj
          rw [hfl] at hf
          obtain ⟨u, hu, hk⟩ := hc _ y hf
          rw [Nat.zero_add, Nat.add_mul, ← ho, Nat.add_assoc] at hu
          show RepD S w y ((w.cell? ⟨b, o + (ii * i.size + j), none⟩).getD undef)
          rw [hu]; exact hk
        · cases hii
    · rw [hs] at hx; cases hx
theorem frz_box_ok (hT : ∀ b o, E.who0 b = some o → ∃ d, o = .box d ∧ passed ≤ d) (h : Rel E g s a w) {b : Nat} {el : TypeId} (e : frzF X s b el some = some s') : ∃ g', Rel E g' s' a w := by
  unfold frzF at e
  split at e
  case h_2 => cases e
  rename_i cells ei hcells hei
  split at e
  case h_2 => cases e
  rename_i row hrow
  obtain ⟨hb, e⟩ := b_true e
  simp only [Bool.and_eq_true] at hb
  obtain ⟨⟨hbp, hsz⟩, hmul⟩ := hb
  split at e
  case h_2 => cases e
  rename_i x hx
  obtain rfl := Option.some.inj e
  rw [blt_iff, decide_eq_true_eq] at hbp
  have hmul := (beq_true hmul).symm
  obtain ⟨h1, h2, l, q, et, hh, hl⟩ := h.bx b cells hcells
  obtain ⟨hcr, hget⟩ := allD_get hrow
  have hll := hl.length
  have hlt : g.B b < w.heap.size := (Array.getElem?_eq_some_iff.1 hh).1
  have hge : ¬ g.B b < E.w0.heap.size := fun hlt => by
    have := (h.ok.oldS _ hlt).2
    rw [h1] at this
    obtain ⟨d, hd, hp⟩ := hT _ _ this.symm
    cases hd; omega
  let g' : Gh := ⟨upd g.S (g.B b) row.length, upd g.who (g.B b) none, g.B⟩
  have ex : Ext g.S w g'.S w := ⟨fun b' => by
    by_cases e : b' = g.B b
    · subst e; rw [h2]; exact Nat.zero_le _
    · show _ ≤ upd _ _ _ _; rw [upd_ne _ _ e]; exact Nat.le_refl _, fun _ _ _ _ hv => hv⟩
  have hown : ∀ t y v, Owned g w t y v → Owned g' w t y v := fun t y v ho => by
    rcases ho with ho | ⟨b', cap, arr, e, hv, hw, hr1, hr2, hr3, hr4⟩
    · exact .inl ho
    · have hne : b' ≠ g.B b := fun e => by subst e; rw [h1] at hw; cases hw
      exact .inr ⟨b', cap, arr, e, hv, by show upd _ _ _ _ = _; rw [upd_ne _ _ hne]; exact hw, hr1, hr2, hr3, by show upd _ _ _ _ = _; rw [upd_ne _ _ hne]; exact hr4⟩
  have hcell : ∀ (j : Nat) (y : DV), row[j]? = some y → ∃ u, w.cell? ⟨g.B b, 0 + j, none⟩ = some u ∧ RepD g'.S w y u := fun j y hj => by
    obtain ⟨cv, hcv, hdv⟩ := hget j y hj
    obtain ⟨u, hu, hk⟩ := hl.get j cv hcv
    have hjl := (List.getElem?_eq_some_iff.1 hu).1
    refine ⟨u, ?_, RepD.mono ex (RepC.dv hk.1 hdv)⟩
    rw [Nat.zero_add, cell_of_row w _ _ _ _ _ hh]
    simpa [List.getElem?_append_left hjl] using hu
  have hC : ∀ c v, RepC g w c v → RepC g' w (c.frz b x) v := by
    intro c v hc
    cases c with
    | d y => exact RepD.mono ex hc
    | own t y => exact ⟨RepD.mono ex hc.1, hown _ _ _ hc.2⟩
    | fn f caps => exact hc
    | ptr b' o r =>
      simp only [CV.frz]
      cases hb : Nat.beq b' b
      · exact RepC.ptr_iff (g := g) (g' := g') rfl hc
      · obtain rfl := beq_true hb
        simp only [cond_true]
        rcases r with _ | ⟨n, r⟩
        · trivial
        · obtain ⟨cc, rfl, hn, _⟩ := row_form hc
          show RepC g' w (partRow o n x) _
          generalize hp : partRow o n x = pc
          cases pc with
          | d y => exact part_rep (S := g'.S) hx hmul (by show _ ≤ upd _ _ _ _; rw [upd_same]; exact Nat.le_refl _) hcell hn hp
          | u => trivial
          | _ =>
            unfold partRow at hp
            split at hp
            · cases hq : Nat.ble (o + n) _ <;> rw [hq] at hp <;> cases hp
            · cases hq : (Nat.beq (o % _) 0 && Nat.ble (o / _ + n) _) <;> rw [hq] at hp <;> cases hp
            · cases hp
    | ep row => exact EpAt.mono ex hc
    | clo f caps => obtain ⟨ps, hv, hp⟩ := hc; exact ⟨ps, hv, hp.mono fun _ _ => EpAt.mono ex⟩
    | yl l => exact hc
    | u => trivial
    | un => exact hc
  refine ⟨g', ⟨h.ok.os, h.ok.out, h.ok.tape, h.ok.size, fun b2 hb2 => ?_, fun b2 hb2 => ?_, h.ok.old, h.ok.pB, h.ok.ext.trans ex⟩, h.df, h.sz, fun t => RepA.lift hC (h.tm t), fun b2 cs hb2 => ?_⟩
  · show upd _ _ _ _ = 0 ∧ upd _ _ _ _ = none
    rw [upd_ne _ _ (by omega), upd_ne _ _ (by omega)]; exact h.ok.fresh b2 hb2
  · show (_ → upd _ _ _ _ = _) ∧ upd _ _ _ _ = _
    rw [upd_ne _ _ (by omega), upd_ne _ _ (by omega)]; exact h.ok.oldS b2 hb2
  · by_cases e : b2 = b
    · subst e; simp only [upd_same] at hb2; cases hb2
    · simp only [upd_ne _ _ e] at hb2
      obtain ⟨cs0, hcs0, rfl⟩ := Option.map_eq_some_iff.1 hb2
      obtain ⟨k1, k2, l', q', et', hh', hl'⟩ := h.bx b2 cs0 hcs0
      have hne : g.B b2 ≠ g.B b := fun e' => by rw [e', h1] at k1; exact e (by cases k1; rfl)
      exact ⟨by show upd _ _ _ (g.B b2) = _; rw [upd_ne _ _ hne]; exact k1, by show upd _ _ _ (g.B b2) = _; rw [upd_ne _ _ hne]; exact k2, l', q', et', hh', All2.map_left _ (fun c v hk => RepK.lift hC hk) hl'⟩
theorem thaw_ok (hT : ∀ b o, E.who0 b = some o → ∃ d, o = .box d ∧ passed ≤ d) (hS0 : ∀ b, E.w0.heap.size ≤ b → E.S0 b = 0) (h : Rel E g s a w) {t nb : Nat} (e : thawF s t nb some = some s') : ∃ g', Rel E g' s' a w := by
  unfold thawF at e
  split at e
  case h_2 => cases e
  rename_i t' x hts
  split at e
  case h_2 => cases e
  rename_i cells hcells
  obtain ⟨hb, e⟩ := b_true e
  simp only [Bool.and_eq_true] at hb
  obtain rfl := Option.some.inj e
  have hcnt := ble_true hb.1
  have hnb := hb.2
  rw [blt_iff, decide_eq_true_eq] at hnb
  have ht := h.tm t
  rw [hts] at ht
  obtain ⟨c0, hc0, ht⟩ := ht
  obtain rfl : CV.own t' x = c0 := by simpa using hc0
  obtain ⟨hrep, hown⟩ := ht
  generalize hv0 : a.tmps.getD t undef = v0 at hrep hown
  rcases hown with hnil | ⟨b, cap, arr, et, hv, hw, hh, hc, hs, hS⟩
  · subst hnil
    cases hrep <;> simp [DV.count] at hcnt
  subst hv
  have hlt : b < w.heap.size := (Array.getElem?_eq_some_iff.1 hh).1
  have hge : ¬ b < E.w0.heap.size := fun hlt => by
    have := (h.ok.oldS _ hlt).2
    rw [hw] at this
    obtain ⟨d, hd, _⟩ := hT _ _ this.symm
    cases hd
  let g' : Gh := ⟨upd g.S b 0, upd g.who b (some (.box nb)), upd g.B nb b⟩
  have hB : ∀ b', b' ≠ nb → g'.B b' = g.B b' := fun b' hb' => upd_ne _ _ hb'
  have hC : ∀ c v, RepC g w c v → RepC g' w ((c.unptr nb).kill t') v := by
    intro c v hc
    cases c with
    | d y =>
      cases hc with
      | int => exact .int _ _
      | bool => exact .bool _
      | str => exact .str _
      | _ => trivial
    | own t2 y =>
      simp only [CV.unptr, CV.kill]
      cases hb : Nat.beq t2 t'
      · simp only [cond_false]
        have hne := beq_false hb
        cases y with
        | ints k l =>
          obtain ⟨hr, ho⟩ := hc
          rcases ho with ho | ⟨b2, cap2, arr2, e2, hv2, hw2, r1, r2, r3, r4⟩
          · subst ho
            cases hr
            exact ⟨.ints0 _ _ _, .inl rfl⟩
          · have hb2 : b2 ≠ b := fun e => by subst e; rw [hw] at hw2; injection hw2 with hh; injection hh with hh; exact hne hh.symm
            subst hv2
            refine ⟨?_, .inr ⟨b2, cap2, arr2, e2, rfl, by show upd _ _ _ _ = _; rw [upd_ne _ _ hb2]; exact hw2, r1, r2, r3, by show upd _ _ _ _ = _; rw [upd_ne _ _ hb2]; exact r4⟩⟩
            cases hr with
            | ints0 => exact .ints0 _ _ _
            | ints _ _ _ _ _ hc2 hS2 hcell2 => exact .ints _ _ _ _ _ hc2 (by show _ ≤ upd _ _ _ _; rw [upd_ne _ _ hb2]; exact hS2) hcell2
        | _ => trivial
      · trivial
    | fn f caps =>
      simp only [CV.unptr]
      cases hc2 : caps.any (fun c => Nat.beq c.1 nb)
      · simp only [cond_false, CV.kill]
        have : ∀ c ∈ caps, c.1 ≠ nb := fun c hm e => by
          rw [List.any_eq_false] at hc2
          have := hc2 c hm
          subst e
          simp at this
        simp only [RepC] at hc ⊢
        rw [hc]
        congr 2
        refine List.map_congr_left fun c hm => ?_
        rw [hB _ (this c hm)]
      · trivial
    | ptr b2 o r =>
      simp only [CV.unptr]
      cases hb : Nat.beq b2 nb
      · exact RepC.ptr_iff (g := g) (g' := g') (hB _ (beq_false hb)) hc
      · trivial
    | ep row => trivial
    | clo f caps => trivial
    | yl l =>
      simp only [CV.unptr]
      cases hb : Nat.beq yN nb
      · show _ = Value.func (.yield (l + upd g.B nb b yN)) #[] #[]
        rw [upd_ne _ _ (beq_false hb)]; exact hc
      · trivial
    | u => trivial
    | un => exact hc
  have hl : ∃ l q, arr.toList = l ++ q ∧ All2 (RepK g' w) (cells.map (CV.kill t')) l := by
    have key : ∀ (row : List DV), row.length ≤ arr.size → (∀ (j : Nat) (y : DV), row[j]? = some y → ∃ u, w.cell? ⟨b, 0 + j, none⟩ = some u ∧ RepD g.S w y u) → ∃ l q, arr.toList = l ++ q ∧ All2 (RepK g' w) ((row.map CV.d).map (CV.kill t')) l := by
      intro row hle hrow
      refine ⟨arr.toList.take row.length, arr.toList.drop row.length, (List.take_append_drop _ _).symm, All2.of_get (by simp; omega) fun j c u hj hu => ?_⟩
      rw [List.map_map, List.getElem?_map] at hj
      obtain ⟨y, hy, rfl⟩ := Option.map_eq_some_iff.1 hj
      obtain ⟨u', hu', hr⟩ := hrow j y hy
      rw [Nat.zero_add, cell_of_row w _ _ _ _ _ hh] at hu'
      have hjl := (List.getElem?_eq_some_iff.1 hy).1
      rw [List.getElem?_take, if_pos hjl] at hu
      rw [Array.getElem?_toList, hu'] at hu
      obtain rfl := Option.some.inj hu
      exact ⟨hC (.d y) _ hr, RepD.one hr⟩
    cases x with
    | ints k l =>
      obtain rfl := Option.some.inj hcells
      have := key (l.map (DV.int k)) (by simp only [DV.len, DV.sz] at hc hs; simp; omega) (fun j y hj => by
        rw [List.getElem?_map] at hj
        obtain ⟨n, hn, rfl⟩ := Option.map_eq_some_iff.1 hj
        cases hrep with
        | ints0 => simp at hn
        | ints _ _ _ _ _ _ _ hcell => exact ⟨_, hcell j n hn, .int _ _⟩)
      simpa [List.map_map, Function.comp_def] using this
    | sl z xs =>
      obtain rfl := Option.some.inj hcells
      cases hrep with
      | sl0 => simp [DV.count] at hcnt
      | sl _ _ _ _ _ vals hz _ _ hr hcell hx =>
        have hfl := flat_len xs hr
        refine key xs.flatten ?_ (fun j y hj => ?_)
        · rw [hfl, hs]; exact Nat.mul_le_mul_right _ hc
        · have hjl := (List.getElem?_eq_some_iff.1 hj).1
          rw [hfl] at hjl
          refine ⟨vals j, hcell j hjl, ?_⟩
          have hd : j / z < xs.length := Nat.div_lt_of_lt_mul (by rw [Nat.mul_comm]; exact hjl)
          have hrl := hr xs[j / z] (List.getElem_mem hd)
          have hm : j % z < z := Nat.mod_lt _ hz
          have hge2 := flat_get (z := z) xs hr (j / z) xs[j / z] (j % z) (xs[j / z][j % z]'(by omega)) (List.getElem?_eq_getElem hd) (List.getElem?_eq_getElem (by omega))
          have hjj : j / z * z + j % z = j := by rw [Nat.mul_comm]; exact Nat.div_add_mod j z
          rw [hjj, hj] at hge2
          have := hx (j / z) _ (j % z) _ (List.getElem?_eq_getElem hd) (List.getElem?_eq_getElem (by omega))
          rw [hjj] at this
          rw [Option.some.inj hge2]; exact this
    | _ => cases hcells
  obtain ⟨l, q, harr, hl⟩ := hl
  have hva : x.len = x.count := by cases x <;> first | rfl | cases hrep
  refine ⟨g', ⟨h.ok.os, h.ok.out, h.ok.tape, h.ok.size, fun b2 hb2 => ?_, fun b2 hb2 => ?_, h.ok.old, fun b2 hb2 ht2 => ?_, ⟨fun b2 => ?_, fun b2 o v ho hv => ?_⟩⟩, h.df, h.sz, fun u => ?_, fun b2 cs hb2 => ?_⟩
  · show upd _ _ _ _ = 0 ∧ upd _ _ _ _ = none
    rw [upd_ne _ _ (by omega), upd_ne _ _ (by omega)]; exact h.ok.fresh b2 hb2
  · show (_ → upd _ _ _ _ = _) ∧ upd _ _ _ _ = _
    rw [upd_ne _ _ (by omega), upd_ne _ _ (by omega)]; exact h.ok.oldS b2 hb2
  · rw [hB _ (by omega)]; exact h.ok.pB b2 hb2 ht2
  · show _ ≤ upd _ _ _ _
    by_cases e : b2 = b
    · subst e
      rw [hS0 _ (by omega)]; exact Nat.zero_le _
    · rw [upd_ne _ _ e]; exact h.ok.ext.le b2
  · exact h.ok.ext.cell b2 o v ho hv
  · by_cases e : u = t
    · subst e
      simp only [upd_same]
      refine ⟨_, rfl, ?_⟩
      rw [hv0]
      exact ⟨cap, by rw [hva]; show _ = Value.slice (some ⟨upd g.B nb b nb, 0, none⟩) _ _; rw [upd_same], by rw [← hva]; exact hc⟩
    · simp only [upd_ne _ _ e]
      exact RepA.lift hC (h.tm u)
  · by_cases e : b2 = nb
    · subst e
      simp only [upd_same] at hb2
      obtain rfl := Option.some.inj hb2
      refine ⟨?_, ?_, l, q, et, ?_, hl⟩
      · show upd _ _ _ (upd _ _ _ _) = _; rw [upd_same, upd_same]
      · show upd _ _ _ (upd _ _ _ _) = _; rw [upd_same, upd_same]
      · show w.heap[upd _ _ _ _]? = _
        rw [upd_same, hh, ← harr]
    · simp only [upd_ne _ _ e] at hb2
      obtain ⟨cs0, hcs0, rfl⟩ := Option.map_eq_some_iff.1 hb2
      obtain ⟨k1, k2, l', q', et', hh', hl'⟩ := h.bx b2 cs0 hcs0
      have hne : g.B b2 ≠ b := fun e' => by rw [e', hw] at k1; cases k1
      have hBe := hB b2 e
      exact ⟨by rw [hBe]; show upd _ _ _ (g.B b2) = _; rw [upd_ne _ _ hne]; exact k1, by rw [hBe]; show upd _ _ _ (g.B b2) = _; rw [upd_ne _ _ hne]; exact k2, l', q', et', by rw [hBe]; exact hh', All2.map_left _ (fun c v hk => RepK.lift hC hk) hl'⟩
theorem prep_ok (hT : ∀ b o, E.who0 b = some o → ∃ d, o = .box d ∧ passed ≤ d) (hS0 : ∀ b, E.w0.heap.size ≤ b → E.S0 b = 0) {R : Type} {K : St → Option R} {r : R} : ∀ (l : List Prep) {s : St} {g : Gh}, Rel E g s a w → prepF X l s K = some r → ∃ s0 g', K s0 = some r ∧ Rel E g' s0 a w
  | [], s, g, h, e => ⟨s, g, e, h⟩
  | .frz b el :: l, s, g, h, e => by
    simp only [prepF] at e
    rw [frzF_nat] at e
    obtain ⟨s1, h1, e⟩ := Option.bind_eq_some_iff.1 e
    obtain ⟨g1, h1⟩ := frz_box_ok hT h h1
    exact prep_ok hT hS0 l h1 e
  | .thaw t nb :: l, s, g, h, e => by
    simp only [prepF] at e
    rw [thawF_nat] at e
    obtain ⟨s1, h1, e⟩ := Option.bind_eq_some_iff.1 e
    obtain ⟨g1, h1⟩ := thaw_ok hT hS0 h h1
    exact prep_ok hT hS0 l h1 e
end
end Go.Proofs.Ythmdefgepnkgiaa.Eng
