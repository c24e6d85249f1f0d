/- append. Conditions: the relation between the two states; the types' table is the program's. -/
import Derived.Test.YthmdefgepnkgiaaE10
namespace Go.Proofs.Ythmdefgepnkgiaa.Eng
open Go
theorem setAt_eq {α : Type} (l vs : List α) (o : Nat) (h : o + vs.length ≤ l.length) : setAt l o vs = l.take o ++ vs ++ l.drop (o + vs.length) := by
  have := setAt_mid vs (l.take o) (l.drop o) (by simp; omega)
  rw [List.take_append_drop, List.length_take, Nat.min_eq_left (by omega)] at this
  rw [this, List.drop_drop]
theorem setAt_before {α : Type} (l vs : List α) (o j : Nat) (h : o + vs.length ≤ l.length) (hj : j < o) : (setAt l o vs)[j]? = l[j]? := by
  rw [setAt_eq l vs o h, List.append_assoc, List.getElem?_append_left (by simp; omega), List.getElem?_take, if_pos hj]
theorem setAt_in {α : Type} (l vs : List α) (o j : Nat) (h : o + vs.length ≤ l.length) (hj : j < vs.length) : (setAt l o vs)[o + j]? = vs[j]? := by
  have : (l.take o).length = o := by simp; omega
  rw [setAt_eq l vs o h, List.append_assoc, List.getElem?_append_right (by rw [this]; omega), this, show o + j - o = j by omega, List.getElem?_append_left hj]
section
variable {P : Program} {X : Ctx} {E : Ent} {g : Gh} {s s' : St} {a : Act} {w : World} {o : Oper}
theorem appD_shape {x y z : DV} (h : appD x y = some z) : ((∃ k l, x = .ints k l) ∨ ∃ q l, x = .sl q l) ∧ ((∃ k l, z = .ints k l) ∨ ∃ q l, z = .sl q l) ∧ z.len = x.len + y.count ∧ z.sz = x.sz ∧ flatD z = flatD x ++ flatD y ∧ x.count = x.len ∧
    ((∃ k l, y = .ints k l ∧ x.sz = 1) ∨ (∃ l, y = .sl x.sz l) ∨ ∃ b, y = .str b ∧ x.sz = 1) ∧ (∀ q l, z = .sl q l → ∃ l1 l2, x = .sl q l1 ∧ y = .sl q l2 ∧ l = l1 ++ l2) ∧ (y.count = 0 → z = x) := by
  unfold appD at h
  split at h
  · rename_i k l k' l'
    obtain ⟨hk, h'⟩ := b_true h
    clear h
    obtain rfl : k = k' := by simpa using hk
    obtain rfl := Option.some.inj h'
    refine ⟨.inl ⟨_, _, rfl⟩, .inl ⟨_, _, rfl⟩, by simp [DV.len, DV.count], rfl, by simp [flatD], rfl, .inl ⟨_, _, rfl, rfl⟩, fun q l h => (by cases h), fun h0 => ?_⟩
    have : l' = [] := List.eq_nil_of_length_eq_zero h0
    rw [this, List.append_nil]
  · rename_i q l q' l'
    obtain ⟨hk, h'⟩ := b_true h
    clear h
    obtain rfl := beq_true hk
    obtain rfl := Option.some.inj h'
    refine ⟨.inr ⟨_, _, rfl⟩, .inr ⟨_, _, rfl⟩, by simp [DV.len, DV.count], rfl, by simp [flatD], rfl, .inr (.inl ⟨_, rfl⟩), fun q'' l'' h => (by cases h; exact ⟨_, _, rfl, rfl, rfl⟩), fun h0 => ?_⟩
    have : l' = [] := List.eq_nil_of_length_eq_zero h0
    rw [this, List.append_nil]
  · rename_i l b
    obtain rfl := Option.some.inj h
    refine ⟨.inl ⟨_, _, rfl⟩, .inl ⟨_, _, rfl⟩, by simp [DV.len, DV.count, intsOf], rfl, by simp [flatD], rfl, .inr (.inr ⟨_, rfl, rfl⟩), fun q l h => (by cases h), fun h0 => ?_⟩
    have : intsOf b = [] := List.eq_nil_of_length_eq_zero (by simp only [intsOf, List.length_map, Array.length_toList]; exact h0)
    rw [this, List.append_nil]
  · cases h
theorem flat_row' {S : Nat → Nat} {x : DV} (hk : (∃ k l, x = .ints k l) ∨ ∃ z l, x = .sl z l) {b c : Nat} {vs : List Value} (hrows : ∀ z l, x = .sl z l → 0 < z ∧ ∀ row ∈ l, row.length = z) (hv : All2 (RepD S w) (flatD x) vs)
    (hc : ∀ (j : Nat) (v : Value), vs[j]? = some v → w.cell? ⟨b, j, none⟩ = some v) (hS : x.len * x.sz ≤ S b) {n : Nat} (hn : x.len = n) (hl : n ≤ c) : RepD S w x (.slice (some ⟨b, 0, none⟩) n c) := by
  subst hn; exact flat_row hk hrows hv hc hS hl
theorem append_fin (h : Rel E g s a w) {g' : Gh} {w' : World} {t : Nat} {z : DV} {v' : Value} {d : Option Nat} (hd : dstOk E.n d = true) (hC : ∀ c v, RepC g w c v → RepC g' w' (c.unfl t) v) (hok : OKW E g' w')
    (hbx : ∀ b cells, BoxAt g w b cells → BoxAt g' w' b (cells.map (CV.unfl t))) (hz : RepC g' w' (.own t z) v') : Rel E g' ((s.map (CV.unfl t)).put d (.c (.own t z))) (a.put d v') w' := by
  have : Rel E g' (s.map (CV.unfl t)) a w' := ⟨hok, h.df, h.sz, fun k => RepA.lift hC (h.tm k), fun b cells hb => by
    simp only [St.map] at hb
    obtain ⟨cs, hcs, rfl⟩ := Option.map_eq_some_iff.1 hb
    exact hbx b cs (h.bx b cs hcs)⟩
  exact this.put d hd (RepA.c hz)
theorem append_ok (hty : ∀ t i, X.ty t = some i → TyOK P t i) (h : Rel E g s a w) {T U e ty : TypeId} {i ui ei : TI} (hi : X.ty T = some i) (hel : i.elem? = some e) (hei : X.ty e = some ei) (hui : X.ty U = some ui) (hUk : rowKind ui.desc = true)
    {t : Nat} {x y z : DV} {v u : Value} (hv : RepC g w (.own t x) v) (hu : RepD g.S w y u) (hz : appD x y = some z) (hsz : x.sz = ei.size) (hby : 1 ≤ ei.bytes) (hs1 : 1 ≤ ei.size) (hzl : ei.zero.length = ei.size)
    (hfit : (x.count + y.count) * ei.bytes ≤ 140737488355328) {d : Option Nat} (hd : dstOk E.n d = true) :
    ∃ v' w' g', (Builtin.append_ #[T, U] ty #[v, u]).run P w = .ok v' w' ∧ Rel E g' ((s.map (CV.unfl t)).put d (.c (.own t z))) (a.put d v') w' := by
  have hTu := (hty _ _ hi).und
  rw [TI.elem_desc hel] at hTu
  obtain ⟨f, hf, hfs, hfb, hfz⟩ := (hty _ _ hei).inf
  obtain ⟨zv, hz1, hz2⟩ := hfz hzl
  have hzvs : zv.cells.size = ei.size := by rw [← hzl, (zsame_ok (g := g) (w := w) hz2).length]; simp
  have hUU : (∃ e', P.underlying U = some (.slice e')) ∨ P.underlying U = some .string := by
    have := (hty _ _ hui).und
    revert hUk this
    cases ui.desc <;> intro hk hu' <;> first | exact .inl ⟨_, hu'⟩ | exact .inr hu' | (simp [rowKind] at hk; done)
  obtain ⟨sx, sz, hlen, hzsz, hflat, hcnt, hyk, hrows, hy0⟩ := appD_shape hz
  rw [hsz] at hyk
  obtain ⟨news, hsrc, hnews⟩ := src_ok (P := P) (w := w) (U := U) (size := ei.size) hu hUU hyk
  rw [← hfs] at hsrc
  have hnl := hsrc.newsLen
  obtain ⟨olds, ho1, ho2, ho3, ho4, ho5, ho6⟩ := src_cells hv.1 sx
  have hold : All2 (RepD g.S w) (flatD x) olds := by
    rcases sx with ⟨k, l, rfl⟩ | ⟨q, l, rfl⟩
    · rw [ho5 k l rfl]
      refine All2.of_get (by simp [flatD]) fun j y u hj hu => ?_
      simp only [flatD, List.getElem?_map, Option.map_eq_some_iff] at hj hu
      obtain ⟨n, hn, rfl⟩ := hj
      obtain ⟨n', hn', rfl⟩ := hu
      rw [hn] at hn'
      obtain rfl := Option.some.inj hn'
      exact .int _ _
    · exact ho6 q l rfl
  have hall : All2 (RepD g.S w) (flatD z) (olds ++ news) := by rw [hflat]; exact hold.append hnews
  have hzrows : ∀ q l, z = .sl q l → 0 < q ∧ ∀ row ∈ l, row.length = q := by
    intro q l hzq
    obtain ⟨l1, l2, rfl, rfl, rfl⟩ := hrows q l hzq
    have hq : q = ei.size := by simpa [DV.sz] using hsz
    refine ⟨by omega, fun row hr => ?_⟩
    rcases List.mem_append.1 hr with hr | hr
    · rcases sl_rows hv.1 with h0 | h0
      · rw [h0] at hr; cases hr
      · exact h0.2 row hr
    · rcases sl_rows hu with h0 | h0
      · rw [h0] at hr; cases hr
      · exact h0.2 row hr
  have h63 : ((x.len + y.count : Nat) : Int) ≤ 9223372036854775807 := by
    have : x.len + y.count ≤ (x.len + y.count) * ei.bytes := Nat.le_mul_of_pos_right _ hby
    rw [hcnt] at hfit
    omega
  -- a new row
  have grow : ∀ (base : Option Addr) (cap : Nat), v = .slice base x.len cap → cap < x.len + y.count → ∃ v' w' g', (Builtin.append_ #[T, U] ty #[v, u]).run P w = .ok v' w' ∧ Rel E g' ((s.map (CV.unfl t)).put d (.c (.own t z))) (a.put d v') w' := by
    intro base cap hvv hlt
    have hr := run_append_grow_src (P := P) w T U ty e f zv hTu hf hz1 base x.len cap olds (by
      rw [hfs, ← hsz, ← hvv, ← hcnt]; exact ho3 w.drew (fun _ _ _ h => h)) u y.count news hsrc hlt h63 (by
      rw [hfb]; exact growslice_fits hlt (by rw [hcnt] at hfit; exact hfit))
    rw [← hvv] at hr
    have hst := (Stay.drew g w).ok E h.ok
    have ed : Ext g.S w g.S w.drew := ⟨fun _ => Nat.le_refl _, fun b o v _ hv => hv⟩
    have hcap := grownCap_ge w (x.len + y.count) cap e
    refine ⟨_, _, g.new w.drew.heap.size (z.len * z.sz) (some (.tok t)), hr, append_fin h hd ?_ ?_ ?_ ?_⟩
    · refine RepC.unfl ?_ (fun t' q u' _ hw => ?_) (fun _ => rfl)
      · exact ed.trans (ext_new hst _ _ _)
      · exact owned_new hst _ _ _ t' q u' hw
    · exact (Stay.new hst _ _ _).ok E hst
    · intro b cells hb
      have hb' := ((Stay.drew g w).trans (Stay.new hst (.cells ((olds ++ news).toArray ++ Builtin.zeroCells zv.cells (grownCap w (x.len + y.count) cap e - (x.len + y.count))) e) (z.len * z.sz) (some (.tok t)))).b b cells hb
      obtain ⟨k1, k2, l, q2, et, k3, k4⟩ := hb'
      refine ⟨k1, k2, l, q2, et, k3, All2.map_left _ (fun c v hk => RepK.lift (f := CV.unfl t) ?_ hk) k4⟩
      exact RepC.unfl (Ext.refl _ _) (fun _ _ _ _ h => h) (fun _ => rfl)
    · have hasz : ((olds ++ news).toArray ++ Builtin.zeroCells zv.cells (grownCap w (x.len + y.count) cap e - (x.len + y.count))).size = grownCap w (x.len + y.count) cap e * z.sz := by
        simp only [Array.size_append, List.size_toArray, List.length_append, size_zeroCells, hzvs, ho1, hnl, hfs, hcnt, hzsz, hsz]
        rw [← Nat.add_mul, ← Nat.add_mul]
        congr 1
        omega
      refine ⟨flat_row' sz hzrows (All2.mono (fun _ _ => RepD.mono (ed.trans (ext_new hst _ _ _))) hall) (fun j q hj => ?_) (by simp [Gh.new, upd_same]) hlen hcap, .inr ⟨_, _, _, e, by rw [hlen]; rfl, ?_, heap_alloc_new w.drew _, by rw [hlen]; exact hcap, hasz, ?_⟩⟩
      · rw [cell_of_row _ _ _ _ _ _ (show (w.drew.alloc (.cells ((olds ++ news).toArray ++ Builtin.zeroCells zv.cells (grownCap w (x.len + y.count) cap e - (x.len + y.count))) e)).heap[w.heap.size]? = _ from heap_alloc_new w.drew _)]
        have hjl := (List.getElem?_eq_some_iff.1 hj).1
        rw [Array.getElem?_append_left (by simpa using hjl)]
        simpa using hj
      · simp [Gh.new, upd_same]
      · simp [Gh.new, upd_same]
  rcases hv.2 with hnil | ⟨b, cap, arr, et, hvv, hwho, hheap, hlc, hasz, hS⟩
  · -- nil
    have hx0 : x.len = 0 := by
      have := hv.1
      rw [hnil] at this
      cases this <;> rfl
    by_cases hn : y.count = 0
    · have hnews0 : news = [] := List.eq_nil_of_length_eq_zero (by rw [hnl, hn]; simp)
      rw [hn, hnews0] at hsrc
      have hr := run_append_nothing (P := P) w T U ty e f hTu hf none 0 0 (Nat.le_refl _) u hsrc
      refine ⟨_, _, g, by rw [hnil]; exact hr, append_fin h hd (RepC.unfl (Ext.refl _ _) (fun _ _ _ _ h => h) (fun _ => rfl)) h.ok (fun b cells hb => ?_) (by rw [hy0 hn, ← hnil]; exact hv)⟩
      obtain ⟨k1, k2, l, q2, et, k3, k4⟩ := hb
      exact ⟨k1, k2, l, q2, et, k3, All2.map_left _ (fun c v hk => RepK.lift (RepC.unfl (Ext.refl _ _) (fun _ _ _ _ h => h) (fun _ => rfl)) hk) k4⟩
    · exact grow none 0 (by rw [hnil, hx0]) (by omega)
  · by_cases hroom : x.len + y.count ≤ cap
    · -- room
      have hlt : b < w.heap.size := (Array.getElem?_eq_some_iff.1 hheap).1
      have hbe : ∀ k, k < E.w0.heap.size → (∀ t, E.who0 k ≠ some (.tok t)) → k ≠ b := fun k hk ht e => by
        subst e
        have := (h.ok.oldS k hk).2
        rw [hwho] at this
        exact ht t this.symm
      have hfitc : x.len * ei.size + news.length ≤ arr.toList.length := by
        rw [hnl, hfs, Array.length_toList, hasz, hsz, ← Nat.add_mul]; exact Nat.mul_le_mul_right _ hroom
      have harr : w.heap[b]? = some (.cells arr.toList.toArray et (0, 0)) := by simpa using hheap
      have hr := run_append_room_src (P := P) w T U ty e f hTu hf b 0 x.len cap u y.count news hsrc hroom (fun j hj => by
        rw [cell_of_row w _ _ _ _ _ hheap]
        have : x.len * f.size + j < arr.size := by rw [hfs]; simp at hfitc; omega
        simp
        omega) (fun j hj => frozen_of_row w _ _ _ _ hheap)
      rw [Nat.zero_add, hfs] at hr
      obtain ⟨a1, a2, a3, a4, a5, a6⟩ := setCells_heap b news (x.len * ei.size) w arr.toList et harr
      rw [← hvv] at hr
      let g' : Gh := ⟨upd g.S b (z.len * z.sz), g.who, g.B⟩
      have hSle : g.S b ≤ z.len * z.sz := by rw [hS, hzsz]; exact Nat.mul_le_mul_right _ (by omega)
      have ex : Ext g.S w g'.S (w.setCells b (x.len * ei.size) news) := by
        refine ⟨fun k => ?_, fun k o' q hlt' hq => ?_⟩
        · by_cases e : k = b
          · subst e; simp only [g', upd_same]; exact hSle
          · simp only [g', upd_ne _ _ e]; exact Nat.le_refl _
        · by_cases e : k = b
          · subst e
            rw [hS, hsz] at hlt'
            rw [cell_of_row _ _ _ _ _ _ a1]
            rw [cell_of_row w _ _ _ _ _ harr] at hq
            simp only [List.getElem?_toArray] at hq ⊢
            rw [setAt_before _ _ _ _ hfitc hlt']; exact hq
          · rw [cell_of_heap (a2 k e)]; exact hq
      have hown : ∀ t' q u', t' ≠ t → Owned g w t' q u' → Owned g' (w.setCells b (x.len * ei.size) news) t' q u' := by
        intro t' q u' hne hw
        rcases hw with hw | ⟨b', cap', arr', el, r0, r1, r2, r3, r4, r5⟩
        · exact .inl hw
        · have hbb : b' ≠ b := fun e => by subst e; rw [hwho] at r1; cases r1; exact hne rfl
          exact .inr ⟨b', cap', arr', el, r0, r1, by rw [a2 b' hbb]; exact r2, r3, r4, by simp only [g', upd_ne _ _ hbb]; exact r5⟩
      have hC : ∀ c v, RepC g w c v → RepC g' (w.setCells b (x.len * ei.size) news) (c.unfl t) v := RepC.unfl ex hown (fun _ => rfl)
      refine ⟨_, _, g', hr, append_fin h hd hC ?_ (fun k cells hb => ?_) ?_⟩
      · refine ⟨a4.trans h.ok.os, a5.trans h.ok.out, a6.trans h.ok.tape, by rw [a3]; exact h.ok.size, fun k hk => ?_, fun k hk => ?_, fun k hk hw => ?_, h.ok.pB, h.ok.ext.trans ex⟩
        · rw [a3] at hk
          have hne : k ≠ b := by omega
          simp only [g', upd_ne _ _ hne]; exact h.ok.fresh k hk
        · refine ⟨fun ht => ?_, (h.ok.oldS k hk).2⟩
          simp only [g', upd_ne _ _ (hbe k hk ht)]; exact (h.ok.oldS k hk).1 ht
        · rw [a2 k (hbe k hk (by rw [hw]; simp))]; exact h.ok.old k hk hw
      · obtain ⟨k1, k2, l, q2, et', k3, k4⟩ := hb
        have hne : g.B k ≠ b := fun e => by rw [e, hwho] at k1; cases k1
        exact ⟨k1, by simp only [g', upd_ne _ _ hne]; exact k2, l, q2, et', by rw [a2 _ hne]; exact k3, All2.map_left _ (fun c v hk => RepK.lift hC hk) k4⟩
      · refine ⟨flat_row' sz hzrows (All2.mono (fun _ _ => RepD.mono ex) hall) (fun j q hj => ?_) (by simp [g', upd_same]) hlen hroom, .inr ⟨b, cap, _, et, by rw [hlen], hwho, a1, by omega, ?_, by simp [g', upd_same]⟩⟩
        · rw [cell_of_row _ _ _ _ _ _ a1]
          simp only [List.getElem?_toArray]
          by_cases hj' : j < olds.length
          · rw [List.getElem?_append_left hj'] at hj
            have hjx : j < x.len * ei.size := by rw [ho1, hcnt, hsz] at hj'; exact hj'
            rw [setAt_before _ _ _ _ hfitc hjx]
            have := hv.1
            rw [hvv] at this
            have hcell : w.cell? ⟨b, j, none⟩ = some q := by
              have := ho3 w (fun _ _ _ h => h)
              rw [hvv, hcnt] at this
              simp only [Builtin.firstCells] at this
              have h2 : (loadCells ⟨b, 0, none⟩ (x.len * x.sz)).run P w = .ok ((arr.toList.take (x.len * x.sz))).toArray w := by
                have := run_loadCells_list (P := P) w ⟨b, 0, none⟩ (arr.toList.take (x.len * x.sz)) (fun j u hj => by
                  rw [Addr.add_mid, Nat.zero_add, cell_of_row w _ _ _ _ _ hheap]
                  rw [List.getElem?_take] at hj
                  split at hj
                  · simpa using hj
                  · cases hj)
                have hl : (arr.toList.take (x.len * x.sz)).length = x.len * x.sz := by
                  simp only [List.length_take, Array.length_toList, hasz]
                  exact Nat.min_eq_left (Nat.mul_le_mul_right _ hlc)
                rw [hl] at this
                exact this
              rw [h2] at this
              have h3 : (arr.toList.take (x.len * x.sz)) = olds := by
                injection this with h4 _
                simpa using congrArg Array.toList h4
              rw [cell_of_row w _ _ _ _ _ hheap]
              rw [← h3, List.getElem?_take] at hj
              split at hj
              · simpa using hj
              · cases hj
            rw [cell_of_row w _ _ _ _ _ harr] at hcell
            simpa using hcell
          · have hjn := (List.getElem?_eq_some_iff.1 hj).1
            rw [List.getElem?_append_right (by omega)] at hj
            have hol : olds.length = x.len * ei.size := by rw [ho1, hcnt, hsz]
            have := setAt_in arr.toList news (x.len * ei.size) (j - olds.length) hfitc (by simp at hjn; omega)
            rw [show x.len * ei.size + (j - olds.length) = j by omega] at this
            rw [this]; exact hj
        · simp only [List.size_toArray, setAt_length, Array.length_toList]
          rw [hasz, hzsz]
    · exact grow _ cap hvv (by omega)
theorem exec_append (hty : ∀ t i, X.ty t = some i → TyOK P t i) (hn : E.n = X.n) (h : Rel E g s a w) {q : Option (List Nat)} {c : Call} (ho : o.op = .call c) (hcal : c.callee = .builtin .append) (hd : dstOk X.n o.dst = true) (e : exec X q o s some = some s') : Goes P E o s' a w := by
  unfold exec at e
  simp only [ho, hcal] at e
  obtain ⟨_, args, ts⟩ := c
  subst hcal
  split at e
  case h_2 => cases e
  rename_i x y T U hx hT
  obtain rfl : args = #[x, y] := Array.ext' hx
  obtain rfl : ts = #[T, U] := Array.ext' hT
  clear hx hT
  split at e
  case h_2 => cases e
  rename_i xv yv hxv hyv
  split at e
  case h_2 => cases e
  rename_i ui hui
  obtain ⟨hk, e⟩ := b_true e
  rw [appendF_nat] at e
  obtain ⟨⟨t, z⟩, hap, e⟩ := Option.bind_eq_some_iff.1 e
  obtain ⟨_, e⟩ := b_true e
  obtain rfl := Option.some.inj e
  unfold appendF at hap
  split at hap
  case h_2 => cases hap
  rename_i t' xd cy
  split at hap
  case h_2 => cases hap
  rename_i yd i hyd hi
  split at hap
  case h_2 => cases hap
  rename_i el hel
  split at hap
  case h_2 => cases hap
  rename_i ei z' hei hz
  obtain ⟨hb, hap⟩ := b_true hap
  obtain ⟨hfit, hap⟩ := b_true hap
  simp only [Option.some.injEq, Prod.mk.injEq] at hap
  obtain ⟨rfl, rfl⟩ := hap
  simp only [Bool.and_eq_true] at hb
  obtain ⟨c1, e1, hxr⟩ := ev_ok h hxv
  obtain rfl := (List.cons.inj e1).1
  obtain ⟨c2, e2, hyr⟩ := ev_ok h hyv
  obtain rfl := (List.cons.inj e2).1
  obtain ⟨v', w', g', hr, hrel⟩ := append_ok hty h (ty := o.type) hi hel hei hui hk hxr (RepC.dv hyr hyd) hz (beq_true hb.1.1.1) (ble_true hb.1.1.2) (ble_true hb.1.2) (beq_true hb.2) (by simpa [leN] using hfit) (by rw [hn]; exact hd)
  intro next Q hnext
  refine wp_value (v := v') (w' := w') ?_ (hnext _ _ g' hrel)
  simp [execOp, ho, resolve, invoke, builtin, hr]
end
end Go.Proofs.Ythmdefgepnkgiaa.Eng
