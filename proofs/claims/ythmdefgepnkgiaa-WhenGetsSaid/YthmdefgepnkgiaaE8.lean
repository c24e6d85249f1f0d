/- What an operation that cuts, turns or builds tells is what the machine comes to; all operations that only look. Conditions: the relation between the two states; the types' table is the program's. -/
import Derived.Test.YthmdefgepnkgiaaE7
namespace Go.Proofs.Ythmdefgepnkgiaa.Eng
open Go
section
variable {P : Program} {X : Ctx} {E : Ent} {g : Gh} {s : St} {a : Act} {w : World} {o : Oper} {r : AV}
theorem zsame_rep {x : DV} {v : Value} (h : zsame1 x v = true) (S : Nat → Nat) (w : World) : RepD S w x v ∧ (∀ t j, RepC ⟨S, fun _ => none, fun _ => 0⟩ w (zeroC t j x) v) := by
  unfold zsame1 at h
  split at h
  · rename_i k n k' n'
    simp only [Bool.and_eq_true, decide_eq_true_eq, beq_iff_eq] at h
    obtain ⟨rfl, rfl⟩ := h
    exact ⟨.int _ _, fun _ _ => RepD.int _ _⟩
  · rename_i b c
    obtain rfl : b = c := by simpa using h
    exact ⟨.bool _, fun _ _ => RepD.bool _⟩
  · rename_i b c
    simp only [Bool.and_eq_true, Array.isEmpty_iff] at h
    obtain rfl : b = c := by
      cases b; cases c; simp_all
    exact ⟨.str _, fun _ _ => RepD.str _⟩
  · exact ⟨.ints0 _ _ _, fun _ _ => ⟨.ints0 _ _ _, .inl rfl⟩⟩
  · exact ⟨.sl0 _ _ _, fun _ _ => ⟨.sl0 _ _ _, .inl rfl⟩⟩
  · cases h
theorem zeroC_ok {x : DV} {v : Value} (h : zsame1 x v = true) (t j : Nat) : RepK g w (zeroC t j x) v := by
  unfold zsame1 at h
  split at h
  · rename_i k n k' n'
    simp only [Bool.and_eq_true, decide_eq_true_eq, beq_iff_eq] at h
    obtain ⟨rfl, rfl⟩ := h
    exact ⟨RepD.int _ _, rfl⟩
  · rename_i b c
    obtain rfl : b = c := by simpa using h
    exact ⟨RepD.bool _, rfl⟩
  · rename_i b c
    simp only [Bool.and_eq_true, Array.isEmpty_iff] at h
    obtain rfl : b = c := by
      cases b; cases c; simp_all
    exact ⟨RepD.str _, rfl⟩
  · exact ⟨⟨.ints0 _ _ _, .inl rfl⟩, rfl⟩
  · exact ⟨⟨.sl0 _ _ _, .inl rfl⟩, rfl⟩
  · cases h
theorem zeroCs_ok (t : Nat) : ∀ {z : List DV} {vs : List Value} (j : Nat), zsame z vs = true → All2 (RepK g w) (zeroCs t j z) vs
  | [], [], _, _ => .nil
  | [], _ :: _, _, h => by simp [zsame] at h
  | _ :: _, [], _, h => by simp [zsame] at h
  | x :: z, v :: vs, j, h => by
    simp only [zsame, Bool.and_eq_true] at h
    exact .cons (zeroC_ok h.1 t j) (zeroCs_ok t (j + 1) h.2)
theorem zsame_ok : ∀ {z : List DV} {vs : List Value}, zsame z vs = true → All2 (RepD g.S w) z vs
  | [], [], _ => .nil
  | [], _ :: _, h => by simp [zsame] at h
  | _ :: _, [], h => by simp [zsame] at h
  | x :: z, v :: vs, h => by
    simp only [zsame, Bool.and_eq_true] at h
    exact .cons (zsame_rep h.1 g.S w).1 (zsame_ok h.2)
/-! ### x[lo:hi] -/
def vI (p : Option (IntKind × Int)) : Option Int := p.map fun q => q.2
theorem sliceAt_ok {T el : TypeId} {ei : TI} (hu : P.underlying T = some (.slice el)) (hs : (Go.sizeOf el).run P w = .ok ei.size w) (ad : Option Addr) (len cap : Nat) (hc : len ≤ cap)
    (lo hi : Option (IntKind × Int)) (h0 : 0 ≤ (vI lo).getD 0) (h1 : (vI lo).getD 0 ≤ (vI hi).getD (len : Int)) (h2 : (vI hi).getD (len : Int) ≤ len) :
    (Instr.sliceAt T (.slice ad len cap) (lo.map fun p => .int p.1 p.2) (hi.map fun p => .int p.1 p.2) none).run P w =
      .ok (.slice (if cap = ((vI lo).getD 0).toNat then ad else ad.map (·.add (((vI lo).getD 0).toNat * ei.size))) (((vI hi).getD (len : Int)).toNat - ((vI lo).getD 0).toNat) (cap - ((vI lo).getD 0).toNat)) w := by
  cases lo with
  | none =>
    cases hi with
    | none => simp [vI, Instr.sliceAt, Instr.slice, Instr.sliceBounds, run_underlying hu, hs]
    | some q =>
      obtain ⟨kq, q⟩ := q
      simp only [vI, Option.map_some, Option.map_none, Option.getD_some, Option.getD_none] at h1 h2
      have : q ≤ (cap : Int) := by omega
      simp [vI, Instr.sliceAt, Instr.slice, Instr.sliceBounds, Instr.sliceBound, asIntOf, run_underlying hu, hs, h1, this]
  | some p =>
    obtain ⟨kp, p⟩ := p
    cases hi with
    | none =>
      simp only [vI, Option.map_some, Option.map_none, Option.getD_some, Option.getD_none] at h0 h1
      simp [vI, Instr.sliceAt, Instr.slice, Instr.sliceBounds, Instr.sliceBound, asIntOf, run_underlying hu, hs, h0, h1]
      by_cases hq : cap = p.toNat <;> simp [hq]
    | some q =>
      obtain ⟨kq, q⟩ := q
      simp only [vI, Option.map_some, Option.getD_some] at h0 h1 h2
      have h3 : q ≤ (cap : Int) := by omega
      have h4 : 0 ≤ q := by omega
      have h5 : p ≤ max q 0 := by omega
      simp [vI, Instr.sliceAt, Instr.slice, Instr.sliceBounds, Instr.sliceBound, asIntOf, run_underlying hu, hs, h0, h3, h4, h5]
      by_cases hq : cap = p.toNat <;> simp [hq]
theorem cutI_some {α : Type} {l l' : List α} {lo hi : Option Int} (e : cutI l lo hi some = some l') :
    0 ≤ lo.getD 0 ∧ lo.getD 0 ≤ hi.getD l.length ∧ hi.getD l.length ≤ l.length ∧ l' = (l.take (hi.getD l.length).toNat).drop (lo.getD 0).toNat := by
  unfold cutI at e
  split at e
  · obtain rfl := Option.some.inj e; simp
  · obtain ⟨h0, e⟩ := b_true e
    obtain ⟨h1, e⟩ := b_true e
    obtain rfl := Option.some.inj e
    simp [leI_eq] at h0 h1
    simp [dropI, h0, h1]
  · obtain ⟨h0, e⟩ := b_true e
    obtain ⟨h1, e⟩ := b_true e
    obtain rfl := Option.some.inj e
    simp [leI_eq] at h0 h1
    simp [takeI, h0, h1]
  · obtain ⟨h0, e⟩ := b_true e
    obtain ⟨h1, e⟩ := b_true e
    obtain ⟨h2, e⟩ := b_true e
    obtain rfl := Option.some.inj e
    simp [leI_eq] at h0 h1 h2
    simp [takeI, dropI, h0, h1, h2]
theorem getElem?_cut {α : Type} (l : List α) (L H j : Nat) (x : α) (h : ((l.take H).drop L)[j]? = some x) : l[L + j]? = some x := by
  rw [List.getElem?_drop, List.getElem?_take] at h
  split at h
  · exact h
  · cases h
theorem RepD.cut_ints {S : Nat → Nat} {k : IntKind} {l : List Int} {ad : Option Addr} {len cap : Nat} (h : RepD S w (.ints k l) (.slice ad len cap)) (L H : Nat) (h1 : L ≤ H) (h2 : H ≤ l.length) :
    RepD S w (.ints k ((l.take H).drop L)) (.slice (if cap = L then ad else ad.map (·.add (L * 1))) (H - L) (cap - L)) ∧ len = l.length ∧ len ≤ cap ∨ (l = [] ∧ len = 0) := by
  cases h with
  | ints0 => exact .inr ⟨rfl, rfl⟩
  | ints _ _ b o c hc hS hcell =>
    left
    refine ⟨?_, rfl, hc⟩
    have hlen : ((l.take H).drop L).length = H - L := by simp; omega
    by_cases hz : (l.take H).drop L = []
    · rw [hz]
      have : H - L = 0 := by rw [← hlen, hz]; rfl
      rw [this]
      exact .ints0 _ _ _
    · have hlt : L < H := by
        have := List.length_pos_iff.2 hz
        omega
      rw [if_neg (by omega), ← hlen]
      simp only [Option.map_some, Addr.add_mid, Nat.mul_one]
      refine .ints k _ b (o + L) _ (by omega) (by rw [hlen]; omega) fun j n hj => ?_
      have := hcell (L + j) n (getElem?_cut l L H j n hj)
      rwa [Nat.add_assoc]
theorem RepD.cut_sl {S : Nat → Nat} {z : Nat} {l : List (List DV)} {ad : Option Addr} {len cap : Nat} (h : RepD S w (.sl z l) (.slice ad len cap)) (L H : Nat) (h1 : L ≤ H) (h2 : H ≤ l.length) :
    RepD S w (.sl z ((l.take H).drop L)) (.slice (if cap = L then ad else ad.map (·.add (L * z))) (H - L) (cap - L)) ∧ len = l.length ∧ len ≤ cap ∨ (l = [] ∧ len = 0) := by
  cases h with
  | sl0 => exact .inr ⟨rfl, rfl⟩
  | sl _ _ b o c vals hz0 hc hS hr hv hx =>
    left
    refine ⟨?_, rfl, hc⟩
    have hlen : ((l.take H).drop L).length = H - L := by simp; omega
    by_cases hz : (l.take H).drop L = []
    · rw [hz]
      have : H - L = 0 := by rw [← hlen, hz]; rfl
      rw [this]
      exact .sl0 _ _ _
    · have hlt : L < H := by
        have := List.length_pos_iff.2 hz
        omega
      rw [if_neg (by omega), ← hlen]
      simp only [Option.map_some, Addr.add_mid]
      have hle : L * z + (H - L) * z ≤ l.length * z := by
        rw [← Nat.add_mul]; exact Nat.mul_le_mul_right _ (by omega)
      refine .sl z _ b (o + L * z) _ (fun j => vals (L * z + j)) hz0 (by omega) (by rw [hlen]; omega) (fun row hrow => hr row (List.mem_of_mem_take (List.mem_of_mem_drop hrow))) (fun j hj => ?_) (fun i row j x hi hj => ?_)
      · rw [Nat.add_assoc]
        exact hv (L * z + j) (by rw [hlen] at hj; omega)
      · have := hx (L + i) row j x (getElem?_cut l L H i row hi) hj
        rwa [Nat.add_mul, Nat.add_assoc] at this
theorem evO_ok (h : Rel E g s a w) {x : Option Operand} {n : Option Int} (e : evO s x = some n) : ∃ p : Option (IntKind × Int), x.map a.eval = p.map (fun p => Value.int p.1 p.2) ∧ vI p = n := by
  unfold evO at e
  split at e
  · obtain rfl := Option.some.inj e; exact ⟨none, rfl, rfl⟩
  · rename_i x
    split at e
    · rename_i k n hx
      obtain rfl := Option.some.inj e
      exact ⟨some (k, n), by simp [evI_ok h hx], rfl⟩
    · cases e
theorem RepD.recap {S : Nat → Nat} {x : DV} {a : Option Addr} {n c c' : Nat} (h : RepD S w x (.slice a n c)) (hc : n ≤ c') : RepD S w x (.slice a n c') := by
  cases h with
  | ints0 => exact .ints0 _ _ _
  | ints k l b o _ _ hS hcell => exact .ints k l b o c' hc hS hcell
  | sl0 => exact .sl0 _ _ _
  | sl z xs b o _ vals hz _ hS hr hv hx => exact .sl z xs b o c' vals hz hc hS hr hv hx
theorem sliceAt3_ok {T e : TypeId} {ei : TI} (hu : P.underlying T = some (.slice e)) (hs : (sizeOf e).run P w = .ok ei.size w) (ad : Option Addr) (len cap : Nat) (hcap : len ≤ cap)
    (lo : Option (IntKind × Int)) (kh : IntKind) (hi : Int) (km : IntKind) (m : Int) (h0 : 0 ≤ (vI lo).getD 0) (h1 : (vI lo).getD 0 ≤ hi) (h2 : hi ≤ m) (h3 : m ≤ len) :
    (Instr.sliceAt T (.slice ad len cap) (lo.map fun p => .int p.1 p.2) (some (.int kh hi)) (some (.int km m))).run P w =
      .ok (.slice (if m.toNat = ((vI lo).getD 0).toNat then ad else ad.map (·.add (((vI lo).getD 0).toNat * ei.size))) (hi.toNat - ((vI lo).getD 0).toNat) (m.toNat - ((vI lo).getD 0).toNat)) w := by
  have a1 : 0 ≤ m := by omega
  have a2 : m ≤ (cap : Int) := by omega
  have a3 : 0 ≤ hi := by omega
  have a4 : hi ≤ max m 0 := by omega
  cases lo with
  | none =>
    simp only [vI, Option.map_none, Option.getD_none] at h0 h1
    simp [vI, Instr.sliceAt, Instr.slice, Instr.sliceBounds, Instr.sliceBound, asIntOf, run_underlying hu, hs, a1, a2, a3, a4]
  | some p =>
    obtain ⟨kp, p⟩ := p
    simp only [vI, Option.map_some, Option.getD_some] at h0 h1
    have a5 : p ≤ max hi 0 := by omega
    simp [vI, Instr.sliceAt, Instr.slice, Instr.sliceBounds, Instr.sliceBound, asIntOf, run_underlying hu, hs, a1, a2, a3, a4, a5, h0]
    by_cases hq : m.toNat = p.toNat <;> simp [hq]
theorem val_slice3 (hty : ∀ t i, X.ty t = some i → TyOK P t i) (h : Rel E g s a w) {T : TypeId} {x mo : Operand} {lo hi : Option Operand} (ho : o.op = .slice T x lo hi (some mo)) {c : CV} {l' h' : Option Int} {km : IntKind} {m : Int} (hcv : RepC g w c (a.eval x))
    {pl ph : Option (IntKind × Int)} (hpl : lo.map a.eval = pl.map fun p => Value.int p.1 p.2) (hpl2 : vI pl = l') (hph : hi.map a.eval = ph.map fun p => Value.int p.1 p.2) (hph2 : vI ph = h') (hmv : a.eval mo = .int km m)
    (e : (cutM X T c l' h' m fun r => some (AV.c (.d r))) = some r) : V P o a g w r := by
  unfold cutM at e
  split at e
  case h_2 => cases e
  rename_i xd hh hdv
  obtain ⟨hb, e2⟩ := b_true e
  clear e
  rename _ => e
  simp only [Bool.and_eq_true] at hb
  have hz := ble_true hb.1.1
  have hhm : hh ≤ m := by simpa [leI_eq] using hb.1.2
  have hml : m ≤ xd.count := by simpa [leI_eq] using hb.2
  have hd := RepC.dv hcv hdv
  obtain ⟨kh, rfl⟩ : ∃ kh, ph = some (kh, hh) := by
    cases ph with
    | none => simp [vI] at hph2
    | some p => obtain ⟨kh, q⟩ := p; simp only [vI, Option.map_some, Option.some.injEq] at hph2; exact ⟨kh, by rw [hph2]⟩
  subst hpl2
  have key : ∀ v, (Instr.sliceAt T (a.eval x) (pl.map fun p => Value.int p.1 p.2) (some (.int kh hh)) (some (.int km m))).run P w = .ok v w → RepA g w r v → V P o a g w r := fun v hr hv =>
    V.same (v := v) (by simp [execOp, ho, hpl, hph, hmv, hr]) hv
  unfold cutF at e
  split at e
  case h_2 => cases e
  rename_i i hi'
  have hu := (hty _ _ hi').und
  rw [hdv] at e
  have fin : ∀ (el : TypeId) (ei : TI) (ad : Option Addr) (cap : Nat) (y : DV), i.desc = .slice el → X.ty el = some ei → a.eval x = .slice ad xd.count cap → xd.count ≤ cap → 0 ≤ (vI pl).getD 0 → (vI pl).getD 0 ≤ hh → r = .c (.d y) →
      (hh.toNat = ((vI pl).getD 0).toNat → ∀ q c', RepD g.S w y (.slice q 0 c')) → (((vI pl).getD 0).toNat < hh.toNat → RepD g.S w y (.slice (ad.map (·.add (((vI pl).getD 0).toNat * ei.size))) (hh.toNat - ((vI pl).getD 0).toNat) (cap - ((vI pl).getD 0).toNat))) → V P o a g w r := by
    intro el ei ad cap y hdesc hei hxe hcap c0 c1 hry h1 h2
    rw [hdesc] at hu
    have hs := (hty _ _ hei).sizeOf (w := w)
    have hrun := sliceAt3_ok (P := P) hu hs ad xd.count cap hcap pl kh hh km m c0 c1 hhm hml
    rw [hxe] at key
    refine key _ hrun ?_
    rw [hry]
    refine RepA.c ?_
    by_cases heq : hh.toNat = ((vI pl).getD 0).toNat
    · have := h1 heq (if m.toNat = ((vI pl).getD 0).toNat then ad else ad.map (·.add (((vI pl).getD 0).toNat * ei.size))) (m.toNat - ((vI pl).getD 0).toNat)
      rw [heq, Nat.sub_self]
      exact this
    · rw [if_neg (by omega)]
      exact RepD.recap (h2 (by omega)) (by omega)
  generalize hxe : a.eval x = v at hd
  split at e
  · rename_i el k l hdesc hq
    obtain rfl : xd = .ints k l := by simpa using hq
    split at e
    case h_2 => cases e
    rename_i ei hei
    obtain ⟨hsz, e⟩ := b_true e
    have hsz := beq_true hsz
    rw [cutI_nat] at e
    obtain ⟨q, hq, hrr⟩ := Option.bind_eq_some_iff.1 e
    obtain rfl := Option.some.inj hrr
    obtain ⟨c0, c1, c2, rfl⟩ := cutI_some hq
    simp only [Option.getD_some] at c1 c2
    have hform : ∃ ad len cap, v = .slice ad len cap := by cases hd <;> exact ⟨_, _, _, rfl⟩
    obtain ⟨ad, len, cap, rfl⟩ := hform
    rcases RepD.cut_ints hd ((vI pl).getD 0).toNat hh.toNat (by omega) (by omega) with ⟨hd', hlen, hcap⟩ | ⟨hl, hlen⟩
    · subst hlen
      refine fin el ei ad cap _ hdesc hei hxe hcap c0 c1 rfl (fun heq q c' => ?_) (fun hlt => ?_)
      · rw [Option.getD_some, heq, List.drop_eq_nil_of_le (by simp; omega)]; exact .ints0 _ _ _
      · have : ¬ cap = ((vI pl).getD 0).toNat := by simp only [DV.count] at hml; omega
        rw [if_neg this] at hd'
        rw [← hsz]; exact hd'
    · subst hl hlen
      refine fin el ei ad cap _ hdesc hei hxe (Nat.zero_le _) c0 c1 rfl (fun heq q c' => ?_) (fun hlt => ?_)
      · simp; exact .ints0 _ _ _
      · simp only [DV.count, List.length_nil] at hml c2; omega
  · rename_i el z l hdesc hq
    obtain rfl : xd = .sl z l := by simpa using hq
    split at e
    case h_2 => cases e
    rename_i ei hei
    obtain ⟨hsz, e⟩ := b_true e
    have hsz := beq_true hsz
    rw [cutI_nat] at e
    obtain ⟨q, hq, hrr⟩ := Option.bind_eq_some_iff.1 e
    obtain rfl := Option.some.inj hrr
    obtain ⟨c0, c1, c2, rfl⟩ := cutI_some hq
    simp only [Option.getD_some] at c1 c2
    have hform : ∃ ad len cap, v = .slice ad len cap := by cases hd <;> exact ⟨_, _, _, rfl⟩
    obtain ⟨ad, len, cap, rfl⟩ := hform
    rcases RepD.cut_sl hd ((vI pl).getD 0).toNat hh.toNat (by omega) (by omega) with ⟨hd', hlen, hcap⟩ | ⟨hl, hlen⟩
    · subst hlen
      refine fin el ei ad cap _ hdesc hei hxe hcap c0 c1 rfl (fun heq q c' => ?_) (fun hlt => ?_)
      · rw [Option.getD_some, heq, List.drop_eq_nil_of_le (by simp; omega)]; exact .sl0 _ _ _
      · have : ¬ cap = ((vI pl).getD 0).toNat := by simp only [DV.count] at hml; omega
        rw [if_neg this] at hd'
        rw [← hsz]; exact hd'
    · subst hl hlen
      refine fin el ei ad cap _ hdesc hei hxe (Nat.zero_le _) c0 c1 rfl (fun heq q c' => ?_) (fun hlt => ?_)
      · simp; exact .sl0 _ _ _
      · simp only [DV.count, List.length_nil] at hml c2; omega
  · rename_i b hdesc hq
    obtain rfl : xd = .str b := by simpa using hq
    simp [DV.sz] at hz
  · cases e
theorem val_slice (hty : ∀ t i, X.ty t = some i → TyOK P t i) (h : Rel E g s a w) {T : TypeId} {x : Operand} {lo hi mx : Option Operand} (ho : o.op = .slice T x lo hi mx) (e : valF X o s some = some r) : V P o a g w r := by
  unfold valF at e
  simp only [ho] at e
  cases mx with
  | some mo =>
    simp only at e
    split at e
    case h_2 => cases e
    rename_i c l' h' km m hc hlo hhi hmo
    have hcv := evC_ok h hc
    have hmv := evI_ok h hmo
    obtain ⟨pl, hpl, hpl2⟩ := evO_ok h hlo
    obtain ⟨ph, hph, hph2⟩ := evO_ok h hhi
    exact val_slice3 hty h ho hcv hpl hpl2 hph hph2 hmv e
  | none =>
  simp only at e
  split at e
  case h_2 => cases e
  rename_i c l' h' hc hlo hhi
  have hcv := evC_ok h hc
  obtain ⟨pl, hpl, hpl2⟩ := evO_ok h hlo
  obtain ⟨ph, hph, hph2⟩ := evO_ok h hhi
  have key : ∀ v, (Instr.sliceAt T (a.eval x) (pl.map fun p => Value.int p.1 p.2) (ph.map fun p => Value.int p.1 p.2) none).run P w = .ok v w → RepA g w r v → V P o a g w r := fun v hr hv =>
    V.same (v := v) (by simp [execOp, ho, hpl, hph, hr]) hv
  split at e
  · rename_i b o' len cc
    unfold cutP at e
    split at e
    case h_2 => cases e
    rename_i i hi'
    split at e
    case h_2 => cases e
    rename_i el hdesc
    have hu := (hty _ _ hi').und
    rw [hdesc] at hu
    split at e
    case h_2 => cases e
    rename_i ei hei
    have hs := (hty _ _ hei).sizeOf (w := w)
    subst hpl2 hph2
    obtain ⟨h0, e⟩ := b_true e
    obtain ⟨h1, e⟩ := b_true e
    obtain ⟨h2, e⟩ := b_true e
    obtain ⟨h3, e⟩ := b_true e
    obtain rfl := Option.some.inj e
    rw [leI_eq, decide_eq_true_eq] at h0 h1 h2
    rw [ltI_eq, decide_eq_true_eq] at h3
    obtain ⟨cap, hxe, hcap, hcc⟩ := row_form hcv
    rw [hxe] at key
    refine key _ (sliceAt_ok hu hs _ len cap hcap pl ph h0 h1 h2) (RepA.c ?_)
    rw [if_neg (by omega)]
    simp only [Option.map_some, Addr.add_mid]
    rcases cc with _ | cc
    · exact ⟨_, rfl, by omega⟩
    · obtain rfl := hcc _ rfl
      exact ⟨rfl, by show _ ≤ cap - _; omega⟩
  unfold cutF at e
  split at e
  case h_2 => cases e
  rename_i i hi'
  have hu := (hty _ _ hi').und
  split at e
  · rename_i el k l hdesc hdv
    rw [hdesc] at hu
    split at e
    case h_2 => cases e
    rename_i ei hei
    obtain ⟨hsz, e⟩ := b_true e
    have hsz := beq_true hsz
    rw [cutI_nat] at e
    obtain ⟨q, hq, hrr⟩ := Option.bind_eq_some_iff.1 e
    obtain rfl := Option.some.inj hrr
    obtain ⟨c0, c1, c2, rfl⟩ := cutI_some hq
    have hd := RepC.dv hcv hdv
    generalize hxe : a.eval x = v at hd
    rw [hxe] at key
    have hs := (hty _ _ hei).sizeOf (w := w)
    subst hpl2 hph2
    have hform : ∃ ad len cap, v = .slice ad len cap := by cases hd <;> exact ⟨_, _, _, rfl⟩
    obtain ⟨ad, len, cap, rfl⟩ := hform
    rcases RepD.cut_ints hd ((vI pl).getD 0).toNat ((vI ph).getD (l.length : Int)).toNat (by omega) (by omega) with ⟨hd', hlen, hcap⟩ | ⟨hl, hlen⟩
    · subst hlen
      refine key _ (sliceAt_ok hu hs ad l.length cap hcap pl ph c0 c1 c2) (RepA.c ?_)
      rw [← hsz]; exact hd'
    · subst hl hlen
      have hlc : 0 ≤ cap := Nat.zero_le _
      refine key _ (sliceAt_ok hu hs ad 0 cap hlc pl ph c0 c1 c2) (RepA.c ?_)
      simp only [List.length_nil] at c1 c2 ⊢
      have e1 : ((vI ph).getD ((0 : Nat) : Int)).toNat - ((vI pl).getD 0).toNat = 0 := by omega
      rw [e1]
      simp only [List.take_nil, List.drop_nil]
      exact RepD.ints0 _ _ _
  · rename_i el z l hdesc hdv
    rw [hdesc] at hu
    split at e
    case h_2 => cases e
    rename_i ei hei
    obtain ⟨hsz, e⟩ := b_true e
    have hsz := beq_true hsz
    rw [cutI_nat] at e
    obtain ⟨q, hq, hrr⟩ := Option.bind_eq_some_iff.1 e
    obtain rfl := Option.some.inj hrr
    obtain ⟨c0, c1, c2, rfl⟩ := cutI_some hq
    have hd := RepC.dv hcv hdv
    generalize hxe : a.eval x = v at hd
    rw [hxe] at key
    have hs := (hty _ _ hei).sizeOf (w := w)
    subst hpl2 hph2
    have hform : ∃ ad len cap, v = .slice ad len cap := by cases hd <;> exact ⟨_, _, _, rfl⟩
    obtain ⟨ad, len, cap, rfl⟩ := hform
    rcases RepD.cut_sl hd ((vI pl).getD 0).toNat ((vI ph).getD (l.length : Int)).toNat (by omega) (by omega) with ⟨hd', hlen, hcap⟩ | ⟨hl, hlen⟩
    · subst hlen
      refine key _ (sliceAt_ok hu hs ad l.length cap hcap pl ph c0 c1 c2) (RepA.c ?_)
      rw [← hsz]; exact hd'
    · subst hl hlen
      have hlc : 0 ≤ cap := Nat.zero_le _
      refine key _ (sliceAt_ok hu hs ad 0 cap hlc pl ph c0 c1 c2) (RepA.c ?_)
      simp only [List.length_nil] at c1 c2 ⊢
      have e1 : ((vI ph).getD ((0 : Nat) : Int)).toNat - ((vI pl).getD 0).toNat = 0 := by omega
      rw [e1]
      simp only [List.take_nil, List.drop_nil]
      exact RepD.sl0 _ _ _
  · rename_i b hdesc hdv
    rw [hdesc] at hu
    rw [cutS_nat] at e
    obtain ⟨q, hq, hrr⟩ := Option.bind_eq_some_iff.1 e
    obtain rfl := Option.some.inj hrr
    have hv : a.eval x = .string b := by
      have hx' := RepC.dv hcv hdv
      generalize a.eval x = v at hx'; cases hx'; rfl
    rw [hv] at key
    subst hpl2 hph2
    refine key (.string q) ?_ (RepA.c (RepD.str _))
    unfold cutS at hq
    cases pl with
    | none =>
      cases ph with
      | none =>
        obtain rfl := Option.some.inj hq
        have : b.extract 0 b.size = b := by
          apply ByteArray.ext; simp
        simp [vI, Instr.sliceAt, Instr.slice, Instr.sliceBounds, run_underlying hu, this]
      | some p =>
        obtain ⟨kp, p⟩ := p
        simp only [vI, Option.map_none, Option.map_some] at hq
        obtain ⟨h0, hq⟩ := b_true hq
        obtain ⟨h1, hq⟩ := b_true hq
        obtain rfl := Option.some.inj hq
        simp [leI_eq] at h0 h1
        simp [vI, Instr.sliceAt, Instr.slice, Instr.sliceBounds, Instr.sliceBound, asIntOf, run_underlying hu, h0, h1]
    | some p =>
      obtain ⟨kp, p⟩ := p
      cases ph with
      | none =>
        simp only [vI, Option.map_none, Option.map_some] at hq
        obtain ⟨h0, hq⟩ := b_true hq
        obtain ⟨h1, hq⟩ := b_true hq
        obtain rfl := Option.some.inj hq
        simp [leI_eq] at h0 h1
        simp [vI, Instr.sliceAt, Instr.slice, Instr.sliceBounds, Instr.sliceBound, asIntOf, run_underlying hu, h0, h1]
      | some q =>
        obtain ⟨kq, q⟩ := q
        simp only [vI, Option.map_some] at hq
        obtain ⟨h0, hq⟩ := b_true hq
        obtain ⟨h1, hq⟩ := b_true hq
        obtain ⟨h2, hq⟩ := b_true hq
        obtain rfl := Option.some.inj hq
        simp [leI_eq] at h0 h1 h2
        have h4 : 0 ≤ q := by omega
        have h5 : p ≤ max q 0 := by omega
        simp [vI, Instr.sliceAt, Instr.slice, Instr.sliceBounds, Instr.sliceBound, asIntOf, run_underlying hu, h0, h1, h2, h4, h5]
  · cases e
end
end Go.Proofs.Ythmdefgepnkgiaa.Eng
