/- A law's arguments as plain values: whatever is handed in, of plain kinds. Conditions: the kinds are plain (checked). -/
import Derived.Test.YthmdefgepnkgiaaEGb
import Derived.ChangeArms
import Derived.ChangeOld
namespace Go.Proofs.Ythmdefgepnkgiaa.Eng
open Go
/-- How many cells a block has: all of what is handed in stays. -/
def S0 (w : World) (k : Nat) : Nat := match w.heap[k]? with | some (.cells c _ _) => c.size | _ => 0
/-- Values of a kind. -/
def WTf (P : Program) : Nat → TypeId → List DV → Prop
  | 0, _, _ => False
  | n + 1, t, row => match P.underlying t with
    | some (.int k) => ∃ m, row = [.int k m] ∧ (Lit.int k m).wf = true
    | some .bool => ∃ b, row = [.bool b]
    | some .string => ∃ s, row = [.str s]
    | some (.slice e) => match P.underlying e with
      | some (.int k) => ∃ l, row = [.ints k l] ∧ ∀ m ∈ l, (Lit.int k m).wf = true
      | _ => ∃ xs, row = [.sl (P.cellsOf e) xs] ∧ ∀ r ∈ xs, WTf P n e r
    | some (.struct fs) => ∃ rows, row = rows.flatten ∧ All2 (fun f r => WTf P n f.type r) fs.toList rows
    | _ => False
def layOk (P : Program) : Nat → List Field → Nat → Bool
  | o, [], n => Nat.beq o n
  | o, f :: r, n => Nat.beq f.offset o && layOk P (o + P.cellsOf f.type) r n
def tyOkL (P : Program) (L : List TypeId) (t : TypeId) : Bool :=
  match P.underlying t with
  | some (.int _) => Nat.beq (P.cellsOf t) 1
  | some .bool => Nat.beq (P.cellsOf t) 1
  | some .string => Nat.beq (P.cellsOf t) 1
  | some (.slice e) => Nat.beq (P.cellsOf t) 1 && L.elem e && Nat.ble 1 (P.cellsOf e)
  | some (.struct fs) => layOk P 0 fs.toList (P.cellsOf t) && fs.toList.all fun f => L.elem f.type
  | _ => false
section
variable {H : Type} {enc : TypeId × Value → H} {P : Program} {w : World} {base : Nat} {spare : Nat → Bool} {held : Bool}
def Reps (w : World) (row : List DV) (cs : List Value) : Prop := ∀ (j : Nat) (d : DV) (v : Value), row[j]? = some d → cs[j]? = some v → RepD (S0 w) w d v
theorem reps_one {d : DV} {v : Value} (h : RepD (S0 w) w d v) : Reps w [d] [v] := by
  intro j x u hx hu
  cases j with
  | zero => simp at hx hu; subst hx; subst hu; exact h
  | succ j => simp at hx
theorem fields_open {n : Nat} {cs : List Value} {total : Nat} (hcs : cs.length = total) : ∀ (fs : List Field) (o : Nat), layOk P o fs total = true → (∀ f ∈ fs, ∃ row, WTf P n f.type row ∧ row.length = ((cs.drop f.offset).take (P.cellsOf f.type)).length ∧ Reps w row ((cs.drop f.offset).take (P.cellsOf f.type))) → o ≤ total →
    ∃ rows, All2 (fun f r => WTf P n f.type r) fs rows ∧ rows.flatten.length = total - o ∧ Reps w rows.flatten (cs.drop o)
  | [], o, hl, _, ho => by
    have : o = total := beq_true hl
    refine ⟨[], .nil, by simp; omega, fun j d v hd => by simp at hd⟩
  | f :: fs, o, hl, hf, ho => by
    simp only [layOk, Bool.and_eq_true] at hl
    have hfo : f.offset = o := beq_true hl.1
    obtain ⟨row, h1, h2, h3⟩ := hf f (by simp)
    rw [hfo] at h2 h3
    have hle : o + P.cellsOf f.type ≤ total := by
      have : ∀ (fs : List Field) (o : Nat), layOk P o fs total = true → o ≤ total := by
        intro fs
        induction fs with
        | nil => intro o h; have : o = total := beq_true h; omega
        | cons g gs ih =>
          intro o h
          simp only [layOk, Bool.and_eq_true] at h
          have := ih _ h.2
          omega
      exact this fs _ hl.2
    have hrl : row.length = P.cellsOf f.type := by rw [h2]; simp; omega
    obtain ⟨rows, g1, g2, g3⟩ := fields_open hcs fs (o + P.cellsOf f.type) hl.2 (fun g hg => hf g (by simp [hg])) hle
    refine ⟨row :: rows, .cons h1 g1, by simp only [List.flatten_cons, List.length_append, hrl, g2]; omega, fun j d v hd hv => ?_⟩
    rw [List.flatten_cons] at hd
    by_cases hj : j < row.length
    · rw [List.getElem?_append_left hj] at hd
      refine h3 j d v hd ?_
      rw [List.getElem?_take, if_pos (by omega)]
      exact hv
    · rw [List.getElem?_append_right (by omega)] at hd
      refine g3 (j - row.length) d v hd ?_
      rw [List.getElem?_drop] at hv ⊢
      rw [show o + P.cellsOf f.type + (j - row.length) = o + j by omega]
      exact hv
theorem addr_add {a : Addr} (h : a.spot = none) (n : Nat) : a.add n = ⟨a.block, a.off + n, none⟩ := by
  obtain ⟨b, o, s⟩ := a
  simp only at h
  subst h
  unfold Addr.add
  split
  · rename_i h0; subst h0; rfl
  · rfl
theorem cell_S0 {b o : Nat} {v : Value} (h : w.cell? ⟨b, o, none⟩ = some v) : o < S0 w b := by
  unfold World.cell? at h
  unfold S0
  simp only at h
  split at h
  · rename_i c _ _ hb
    rw [hb]
    simp at h
    exact (Array.getElem?_eq_some_iff.1 h).1
  · cases h
theorem open_row {L : List TypeId} (hL : ∀ t ∈ L, tyOkL P L t = true) : ∀ (fuel : Nat) (t : TypeId) (cs : List Value) (x : DataW H × List MemPlace), t ∈ L → DataW.trod enc P w base spare held fuel t cs = some x →
    ∃ row, WTf P fuel t row ∧ row.length = cs.length ∧ cs.length = P.cellsOf t ∧ Reps w row cs
  | 0, _, _, _, _, h => by simp [DataW.trod] at h
  | fuel + 1, t, cs, x, ht, h => by
    have hc := hL t ht
    unfold tyOkL at hc
    cases hu : P.underlying t with
    | none => rw [hu] at hc; cases hc
    | some d =>
      rw [hu] at hc
      cases d with
      | int k =>
        obtain ⟨n, rfl, _, hw⟩ := DataW.trod_int hu h
        exact ⟨[.int k n], by unfold WTf; rw [hu]; exact ⟨n, rfl, hw⟩, rfl, (beq_true hc).symm, reps_one (.int k n)⟩
      | bool =>
        obtain ⟨b, rfl, _⟩ := DataW.trod_bool hu h
        exact ⟨[.bool b], by unfold WTf; rw [hu]; exact ⟨b, rfl⟩, rfl, (beq_true hc).symm, reps_one (.bool b)⟩
      | string =>
        obtain ⟨s, rfl, _, _⟩ := DataW.trod_string hu h
        exact ⟨[.str s], by unfold WTf; rw [hu]; exact ⟨s, rfl⟩, rfl, (beq_true hc).symm, reps_one (.str s)⟩
      | slice e =>
        simp only [Bool.and_eq_true] at hc
        obtain ⟨⟨hc1, he⟩, hz⟩ := hc
        have he : e ∈ L := by simpa using he
        have hz : 1 ≤ P.cellsOf e := ble_true hz
        have hc1 := beq_true hc1
        rcases DataW.trod_slice hu h with ⟨rfl, _⟩ | ⟨a, len, cap, elems, rest, n, hn, rfl, _, _, hlc, _, hlen, hel, _, _⟩
        · cases hue : P.underlying e with
          | none => exact ⟨[.sl (P.cellsOf e) []], by unfold WTf; rw [hu]; simp only [hue]; exact ⟨[], rfl, fun r hr => by cases hr⟩, rfl, hc1.symm, reps_one (.sl0 _ _ _)⟩
          | some de =>
            cases de with
            | int k => exact ⟨[.ints k []], by unfold WTf; rw [hu]; simp only [hue]; exact ⟨[], rfl, fun r hr => by cases hr⟩, rfl, hc1.symm, reps_one (.ints0 _ _ _)⟩
            | _ => exact ⟨[.sl (P.cellsOf e) []], by unfold WTf; rw [hu]; simp only [hue]; exact ⟨[], rfl, fun r hr => by cases hr⟩, rfl, hc1.symm, reps_one (.sl0 _ _ _)⟩
        · obtain rfl : fuel = n := Nat.succ.inj hn
          -- each element
          have each : ∀ i, i < len → ∃ ci, w.cells? base (a.add (i * P.cellsOf e)) (P.cellsOf e) = some ci ∧ ∃ row, WTf P fuel e row ∧ row.length = P.cellsOf e ∧ Reps w row ci := by
            intro i hi
            have h1 := hel i hi
            rw [List.getElem?_eq_getElem (by omega)] at h1
            obtain ⟨ci, h2, h3⟩ := Option.bind_eq_some_iff.1 h1
            obtain ⟨row, r1, r2, r3, r4⟩ := open_row hL fuel e ci _ he h3
            exact ⟨ci, h2, row, r1, by omega, r4⟩
          have hspot : 0 < len → a.spot = none := by
            intro h0
            obtain ⟨ci, h2, _⟩ := each 0 h0
            have h3 := (World.cells?_some h2).2.2 0 (by omega)
            have h4 := (World.cells?_some h2).2.1
            rw [Nat.zero_mul] at h3
            have h5 : w.cell? a = some (ci[0]'(by omega)) := by
              have e0 : (a.add 0).add 0 = a := by simp [Addr.add]
              rw [e0] at h3
              rw [h3]; exact List.getElem?_eq_getElem _
            unfold World.cell? at h5
            split at h5
            · split at h5
              · cases h5
              · rename_i hs; simpa using hs
            · cases h5
          have cellAt : ∀ i j, i < len → j < P.cellsOf e → ∀ ci, w.cells? base (a.add (i * P.cellsOf e)) (P.cellsOf e) = some ci → ∀ v, ci[j]? = some v → w.cell? ⟨a.block, a.off + (i * P.cellsOf e + j), none⟩ = some v := by
            intro i j hi hj ci hci v hv
            have h3 := (World.cells?_some hci).2.2 j hj
            have hs := hspot (by omega)
            rw [addr_add hs, addr_add rfl] at h3
            rw [hv] at h3
            rw [← Nat.add_assoc]; exact h3
          have hcl : [Value.slice (some a) len cap].length = P.cellsOf t := hc1.symm
          cases hue : P.underlying e with
          | none => exact absurd (hL e he) (by unfold tyOkL; rw [hue]; simp)
          | some de =>
            by_cases hint : ∃ k, de = .int k
            · obtain ⟨k, rfl⟩ := hint
              have hz1 : P.cellsOf e = 1 := by
                have := hL e he
                unfold tyOkL at this
                rw [hue] at this
                exact beq_true this
              have each2 : ∀ i, i < len → ∃ n : Int, (Lit.int k n).wf = true ∧ w.cell? ⟨a.block, a.off + i, none⟩ = some (.int k n) := by
                intro i hi
                obtain ⟨ci, h2, row, r1, r2, r3⟩ := each i hi
                have hcl := (World.cells?_some h2).2.1
                rw [hz1] at hcl
                match ci, hcl with
                | [v], _ =>
                  have hw := cellAt i 0 hi (by omega) [v] h2 v rfl
                  rw [hz1, Nat.mul_one, Nat.add_zero] at hw
                  cases fuel with
                  | zero => exact r1.elim
                  | succ m =>
                    unfold WTf at r1
                    rw [hue] at r1
                    obtain ⟨n, rfl, hwf⟩ := r1
                    have := r3 0 _ _ rfl rfl
                    cases this
                    exact ⟨n, hwf, hw⟩
              let f : Nat → Int := fun i => if h : i < len then (each2 i h).choose else 0
              have hf : ∀ i, i < len → (Lit.int k (f i)).wf = true ∧ w.cell? ⟨a.block, a.off + i, none⟩ = some (.int k (f i)) := fun i hi => by
                have := (each2 i hi).choose_spec
                simp only [f, dif_pos hi]
                exact this
              refine ⟨[.ints k ((List.range len).map f)], ?_, rfl, hcl, reps_one ?_⟩
              · unfold WTf
                rw [hu]
                simp only [hue]
                refine ⟨_, rfl, fun m hm => ?_⟩
                obtain ⟨i, hi, rfl⟩ := List.mem_map.1 hm
                exact (hf i (by simpa using hi)).1
              · by_cases h0 : len = 0
                · subst h0
                  exact .ints0 k (some a) cap
                · have hs := hspot (by omega)
                  have ha : a = ⟨a.block, a.off, none⟩ := by rw [← hs]
                  have hll : ((List.range len).map f).length = len := by simp
                  have := RepD.ints (S := S0 w) (w := w) k ((List.range len).map f) a.block a.off cap (by rw [hll]; exact hlc) (by
                    rw [hll]
                    have := cell_S0 (hf (len - 1) (by omega)).2
                    omega) (fun j n hj => by
                      rw [List.getElem?_map] at hj
                      obtain ⟨i, hi, rfl⟩ := Option.map_eq_some_iff.1 hj
                      have hjl := (List.getElem?_eq_some_iff.1 hi).1
                      simp at hjl
                      rw [List.getElem?_range hjl] at hi
                      obtain rfl := Option.some.inj hi
                      exact (hf j hjl).2)
                  rw [hll, ← ha] at this
                  exact this
            · let f : Nat → List DV := fun i => if h : i < len then (each i h).choose_spec.2.choose else []
              have hf : ∀ i, i < len → WTf P fuel e (f i) ∧ (f i).length = P.cellsOf e ∧ ∃ ci, w.cells? base (a.add (i * P.cellsOf e)) (P.cellsOf e) = some ci ∧ Reps w (f i) ci := fun i hi => by
                have h1 := (each i hi).choose_spec.1
                have h2 := (each i hi).choose_spec.2.choose_spec
                simp only [f, dif_pos hi]
                exact ⟨h2.1, h2.2.1, _, h1, h2.2.2⟩
              refine ⟨[.sl (P.cellsOf e) ((List.range len).map f)], ?_, rfl, hcl, reps_one ?_⟩
              · have hw : ∃ xs, [DV.sl (P.cellsOf e) ((List.range len).map f)] = [.sl (P.cellsOf e) xs] ∧ ∀ r ∈ xs, WTf P fuel e r := by
                  refine ⟨_, rfl, fun m hm => ?_⟩
                  obtain ⟨i, hi, rfl⟩ := List.mem_map.1 hm
                  exact (hf i (by simpa using hi)).1
                unfold WTf
                rw [hu]
                cases de <;> simp only [hue] <;> first | exact hw | exact absurd ⟨_, rfl⟩ hint
              · by_cases h0 : len = 0
                · subst h0
                  exact .sl0 _ (some a) cap
                · have hs := hspot (by omega)
                  have ha : a = ⟨a.block, a.off, none⟩ := by rw [← hs]
                  have hll : ((List.range len).map f).length = len := by simp
                  have cells : ∀ j, j < len * P.cellsOf e → ∃ v, w.cell? ⟨a.block, a.off + j, none⟩ = some v := by
                    intro j hj
                    have hi : j / P.cellsOf e < len := Nat.div_lt_of_lt_mul (by rw [Nat.mul_comm]; exact hj)
                    obtain ⟨_, _, ci, h2, _⟩ := hf _ hi
                    have hm := Nat.mod_lt j (show 0 < P.cellsOf e by omega)
                    have hcl := (World.cells?_some h2).2.1
                    have := cellAt _ _ hi hm ci h2 _ (List.getElem?_eq_getElem (by omega))
                    rw [Nat.mul_comm, Nat.div_add_mod] at this
                    exact ⟨_, this⟩
                  let vals : Nat → Value := fun j => if h : j < len * P.cellsOf e then (cells j h).choose else undef
                  have hvals : ∀ j, j < len * P.cellsOf e → w.cell? ⟨a.block, a.off + j, none⟩ = some (vals j) := fun j hj => by
                    simp only [vals, dif_pos hj]
                    exact (cells j hj).choose_spec
                  have hpos : 0 < len * P.cellsOf e := Nat.mul_pos (by omega) (by omega)
                  have := RepD.sl (S := S0 w) (w := w) (P.cellsOf e) ((List.range len).map f) a.block a.off cap vals (by omega) (by rw [hll]; exact hlc) (by
                    rw [hll]
                    have := cell_S0 (hvals (len * P.cellsOf e - 1) (by omega))
                    omega) (fun row hr => by
                      obtain ⟨i, hi, rfl⟩ := List.mem_map.1 hr
                      exact (hf i (by simpa using hi)).2.1) (fun j hj => hvals j (by rw [hll] at hj; exact hj)) (fun i row j x hi hj => by
                        rw [List.getElem?_map] at hi
                        obtain ⟨i', hi', rfl⟩ := Option.map_eq_some_iff.1 hi
                        have hil := (List.getElem?_eq_some_iff.1 hi').1
                        simp at hil
                        rw [List.getElem?_range hil] at hi'
                        obtain rfl := Option.some.inj hi'
                        obtain ⟨_, r2, ci, h2, r3⟩ := hf i hil
                        have hjl : j < P.cellsOf e := by rw [← r2]; exact (List.getElem?_eq_some_iff.1 hj).1
                        have hcl := (World.cells?_some h2).2.1
                        have hlt : i * P.cellsOf e + j < len * P.cellsOf e := by
                          have : (i + 1) * P.cellsOf e ≤ len * P.cellsOf e := Nat.mul_le_mul_right _ hil
                          rw [Nat.add_mul, Nat.one_mul] at this
                          omega
                        have h4 := cellAt i j hil hjl ci h2 _ (List.getElem?_eq_getElem (by omega))
                        rw [hvals _ hlt] at h4
                        refine r3 j x _ hj ?_
                        rw [Option.some.inj h4]
                        exact List.getElem?_eq_getElem _)
                  rw [hll, ← ha] at this
                  exact this
      | struct fs =>
        simp only [Bool.and_eq_true] at hc
        obtain ⟨xs, n, hn, _, hl, hxl, hx⟩ := DataW.trod_struct hu h
        obtain rfl : fuel = n := Nat.succ.inj hn
        obtain ⟨rows, r1, r2, r3⟩ := fields_open (P := P) (w := w) (n := fuel) hl fs.toList 0 hc.1 (fun f hf => by
          obtain ⟨i, hi⟩ := List.mem_iff_getElem?.1 hf
          have hi' : fs[i]? = some f := by simpa using hi
          have h1 := hx i f hi'
          have hil : i < xs.length := by rw [hxl]; exact (Array.getElem?_eq_some_iff.1 hi').1
          rw [List.getElem?_eq_getElem hil] at h1
          obtain ⟨row, q1, q2, _, q4⟩ := open_row hL fuel f.type _ _ (by
            have := List.all_eq_true.1 hc.2 f hf
            simpa using this) h1
          exact ⟨row, q1, q2, q4⟩) (Nat.zero_le _)
        refine ⟨rows.flatten, by unfold WTf; rw [hu]; exact ⟨rows, rfl, r1⟩, by rw [r2, hl]; simp, hl, ?_⟩
        rw [List.drop_zero] at r3
        exact r3
      | _ => simp at hc
/-- How the caller sees what is handed in. -/
abbrev gh0 (w : World) : Gh := ⟨fun k => match w.heap[k]? with | some (.cells c _ _) => c.size | _ => 0, fun _ => none, fun _ => 0⟩
theorem reps_all {row : List DV} {cs : List Value} (hl : row.length = cs.length) (h : Reps w row cs) : All2 (RepK (gh0 w) w) (row.map .d) cs :=
  All2.of_get (by simpa using hl) fun j c v hj hv => by
    rw [List.getElem?_map] at hj
    obtain ⟨d, hd, rfl⟩ := Option.map_eq_some_iff.1 hj
    have hr : RepD (gh0 w).S w d v := h j d v hd hv
    exact ⟨hr, RepD.one hr⟩
theorem arg_agg {L : List TypeId} (hL : ∀ t ∈ L, tyOkL P L t = true) {t : TypeId} (ht : t ∈ L) {cs : Array Value} {d : DataW H} {p : List MemPlace} (h : DataW.Trod enc P w base spare held t (.agg cs) d p) : ∃ n row, WTf P n t row ∧ RepA (gh0 w) w (.one true (row.map .d)) (.agg cs) := by
  obtain ⟨n, hn⟩ := h
  obtain ⟨row, h1, h2, _, h4⟩ := open_row hL n t _ _ ht hn
  exact ⟨n, row, h1, cs.toList, by simp, reps_all (by simpa [Value.cells] using h2) (by simpa [Value.cells] using h4)⟩
theorem arg_one {L : List TypeId} (hL : ∀ t ∈ L, tyOkL P L t = true) {t : TypeId} (ht : t ∈ L) {v : Value} (hv : v.cells.toList = [v]) {d : DataW H} {p : List MemPlace} (h : DataW.Trod enc P w base spare held t v d p) : ∃ n x, WTf P n t [x] ∧ RepA (gh0 w) w (.one false [.d x]) v := by
  obtain ⟨n, hn⟩ := h
  obtain ⟨row, h1, h2, _, h4⟩ := open_row hL n t _ _ ht hn
  rw [hv] at h2 h4
  match row, h2 with
  | [x], _ => exact ⟨n, x, h1, .d x, rfl, h4 0 x v rfl rfl⟩
end
end Go.Proofs.Ythmdefgepnkgiaa.Eng
