/- How plain values lie in memory, and that they stay there. Conditions: none (definitions and their first laws). -/
import Derived.Test.YthmdefgepnkgiaaE2
namespace Go.Proofs.Ythmdefgepnkgiaa.Eng
open Go
/-! ### The program's types -/
def emptyD (P : Program) (e : TypeId) : Option DV :=
  match P.underlying e, P.info? e with
  | some (.int k), _ => some (.ints k [])
  | some _, some i => some (.sl i.size [])
  | _, _ => none
def zeroD (P : Program) : Nat → TypeId → Option (List DV)
  | 0, _ => none
  | n + 1, t => match P.underlying t with
    | some (.int k) => some [.int k 0]
    | some .bool => some [.bool false]
    | some .string => some [.str ⟨#[]⟩]
    | some (.slice e) => match emptyD P e with | some x => some [x] | none => none
    | some (.struct fs) => fs.toList.foldr (fun f acc => match zeroD P n f.type, acc with | some a, some b => some (a ++ b) | _, _ => none) (some [])
    | some (.array k e) => match zeroD P n e with | some a => some (List.replicate k a).flatten | none => none
    | _ => none
def zsame1 : DV → Value → Bool
  | .int k n, .int k' n' => decide (k = k') && n == n'
  | .bool b, .bool c => b == c
  | .str s, .string s' => s.data.isEmpty && s'.data.isEmpty
  | .ints _ [], .slice none 0 0 => true
  | .sl _ [], .slice none 0 0 => true
  | _, _ => false
def zsame : List DV → List Value → Bool
  | [], [] => true
  | x :: r, v :: q => zsame1 x v && zsame r q
  | _, _ => false
def tyOf (P : Program) (t : TypeId) : Option TI :=
  match P.underlying t, P.info? t with
  | some d, some i => match zeroD P 12 t, i.zero with
    | some z, some v => bif zsame z v.cells.toList then some ⟨d, i.size, i.bytes, z, !P.stoodInHeld t⟩ else some ⟨d, i.size, i.bytes, List.replicate (i.size + 1) (.bool true), !P.stoodInHeld t⟩
    | _, _ => some ⟨d, i.size, i.bytes, List.replicate (i.size + 1) (.bool true), !P.stoodInHeld t⟩
  | _, _ => none
structure TyOK (P : Program) (t : TypeId) (i : TI) : Prop where
  und : P.underlying t = some i.desc
  inf : ∃ f, P.info? t = some f ∧ f.size = i.size ∧ f.bytes = i.bytes ∧ (i.zero.length = i.size → ∃ v, f.zero = some v ∧ zsame i.zero v.cells.toList = true)
  held : i.eqOk = true → P.stoodInHeld t = false
theorem tyOf_ok {P : Program} {t : TypeId} {i : TI} (h : tyOf P t = some i) : TyOK P t i := by
  unfold tyOf at h
  split at h
  case h_2 => exact absurd h (by simp)
  case h_1 d f hd hf =>
  split at h
  case h_1 z v hz hv =>
    cases hs : zsame z v.cells.toList
    · rw [hs] at h
      obtain rfl := Option.some.inj h
      exact ⟨hd, ⟨f, hf, rfl, rfl, fun h => by simp at h⟩, fun h => by simpa using h⟩
    · rw [hs] at h
      obtain rfl := Option.some.inj h
      exact ⟨hd, ⟨f, hf, rfl, rfl, fun _ => ⟨v, hv, hs⟩⟩, fun h => by simpa using h⟩
  case h_2 =>
    obtain rfl := Option.some.inj h
    exact ⟨hd, ⟨f, hf, rfl, rfl, fun h => by simp at h⟩, fun h => by simpa using h⟩
/-! ### Memory -/
inductive Owner where
  | box (b : Nat)
  | tok (t : Nat)
structure Gh where
  S : Nat → Nat
  who : Nat → Option Owner
  B : Nat → Nat
inductive All2 {α β : Type} (R : α → β → Prop) : List α → List β → Prop where
  | nil : All2 R [] []
  | cons {a b l m} : R a b → All2 R l m → All2 R (a :: l) (b :: m)
theorem All2.length {α β : Type} {R : α → β → Prop} {l : List α} {m : List β} (h : All2 R l m) : l.length = m.length := by
  induction h with
  | nil => rfl
  | cons _ _ ih => simp [ih]
theorem All2.mono {α β : Type} {R R' : α → β → Prop} (hr : ∀ a b, R a b → R' a b) {l : List α} {m : List β} (h : All2 R l m) : All2 R' l m := by
  induction h with
  | nil => exact .nil
  | cons h _ ih => exact .cons (hr _ _ h) ih
theorem All2.get {α β : Type} {R : α → β → Prop} {l : List α} {m : List β} (h : All2 R l m) (j : Nat) (a : α) (ha : l[j]? = some a) : ∃ b, m[j]? = some b ∧ R a b := by
  induction h generalizing j with
  | nil => simp at ha
  | cons h _ ih =>
    cases j with
    | zero => simp at ha; subst ha; exact ⟨_, rfl, h⟩
    | succ j => simpa using ih j (by simpa using ha)
theorem All2.of_get {α β : Type} {R : α → β → Prop} : ∀ {l : List α} {m : List β}, l.length = m.length → (∀ (j : Nat) (a : α) (b : β), l[j]? = some a → m[j]? = some b → R a b) → All2 R l m
  | [], [], _, _ => .nil
  | [], _ :: _, h, _ => by simp at h
  | _ :: _, [], h, _ => by simp at h
  | a :: l, b :: m, h, hg => .cons (hg 0 a b rfl rfl) (All2.of_get (by simpa using h) fun j a b ha hb => hg (j + 1) a b (by simpa using ha) (by simpa using hb))
theorem All2.drop {α β : Type} {R : α → β → Prop} {l : List α} {m : List β} (h : All2 R l m) (n : Nat) : All2 R (l.drop n) (m.drop n) := by
  induction h generalizing n with
  | nil => simpa using All2.nil
  | cons h t ih => cases n with
    | zero => exact .cons h t
    | succ n => simpa using ih n
theorem All2.take {α β : Type} {R : α → β → Prop} {l : List α} {m : List β} (h : All2 R l m) (n : Nat) : All2 R (l.take n) (m.take n) := by
  induction h generalizing n with
  | nil => simpa using All2.nil
  | cons h t ih => cases n with
    | zero => exact .nil
    | succ n => simpa using All2.cons h (ih n)
theorem All2.append {α β : Type} {R : α → β → Prop} {l l' : List α} {m m' : List β} (h : All2 R l m) (h' : All2 R l' m') : All2 R (l ++ l') (m ++ m') := by
  induction h with
  | nil => exact h'
  | cons h _ ih => exact .cons h ih
theorem All2.set {α β : Type} {R : α → β → Prop} {l : List α} {m : List β} (h : All2 R l m) (j : Nat) (a : α) (b : β) (hr : R a b) : All2 R (l.set j a) (m.set j b) := by
  induction h generalizing j with
  | nil => exact .nil
  | cons h t ih => cases j with
    | zero => exact .cons hr t
    | succ j => exact .cons h (ih j)
theorem All2.map_left {α α' β : Type} {R : α → β → Prop} {R' : α' → β → Prop} (f : α → α') (hr : ∀ a b, R a b → R' (f a) b) {l : List α} {m : List β} (h : All2 R l m) : All2 R' (l.map f) m := by
  induction h with
  | nil => exact .nil
  | cons h _ ih => exact .cons (hr _ _ h) ih
inductive RepD (S : Nat → Nat) (w : World) : DV → Value → Prop where
  | int (k n) : RepD S w (.int k n) (.int k n)
  | bool (b) : RepD S w (.bool b) (.bool b)
  | str (s) : RepD S w (.str s) (.string s)
  | ints0 (k a c) : RepD S w (.ints k []) (.slice a 0 c)
  | ints (k l b o c) (hc : l.length ≤ c) (hS : o + l.length ≤ S b) (h : ∀ (j : Nat) (n : Int), l[j]? = some n → w.cell? ⟨b, o + j, none⟩ = some (.int k n)) :
      RepD S w (.ints k l) (.slice (some ⟨b, o, none⟩) l.length c)
  | sl0 (z a c) : RepD S w (.sl z []) (.slice a 0 c)
  | sl (z) (xs : List (List DV)) (b o c) (vals : Nat → Value) (hz : 0 < z) (hc : xs.length ≤ c) (hS : o + xs.length * z ≤ S b) (hr : ∀ row ∈ xs, row.length = z)
      (hv : ∀ j, j < xs.length * z → w.cell? ⟨b, o + j, none⟩ = some (vals j))
      (hx : ∀ (i : Nat) (row : List DV) (j : Nat) (x : DV), xs[i]? = some row → row[j]? = some x → RepD S w x (vals (i * z + j))) :
      RepD S w (.sl z xs) (.slice (some ⟨b, o, none⟩) xs.length c)
theorem RepD.one {S : Nat → Nat} {w : World} {x : DV} {v : Value} (h : RepD S w x v) : v.oneCell' = true := by cases h <;> rfl
/-- What is stable stays. -/
structure Ext (S : Nat → Nat) (w : World) (S' : Nat → Nat) (w' : World) : Prop where
  le : ∀ b, S b ≤ S' b
  cell : ∀ (b o : Nat) (v : Value), o < S b → w.cell? ⟨b, o, none⟩ = some v → w'.cell? ⟨b, o, none⟩ = some v
theorem Ext.refl (S : Nat → Nat) (w : World) : Ext S w S w := ⟨fun _ => Nat.le_refl _, fun _ _ _ _ h => h⟩
theorem Ext.trans {S S' S'' : Nat → Nat} {w w' w'' : World} (h : Ext S w S' w') (k : Ext S' w' S'' w'') : Ext S w S'' w'' :=
  ⟨fun b => Nat.le_trans (h.le b) (k.le b), fun b o v ho hv => k.cell b o v (Nat.lt_of_lt_of_le ho (h.le b)) (h.cell b o v ho hv)⟩
theorem RepD.mono {S S' : Nat → Nat} {w w' : World} (e : Ext S w S' w') {x : DV} {v : Value} (h : RepD S w x v) : RepD S' w' x v := by
  induction h with
  | int k n => exact .int k n
  | bool b => exact .bool b
  | str s => exact .str s
  | ints0 k a c => exact .ints0 k a c
  | ints k l b o c hc hS h =>
    refine .ints k l b o c hc (Nat.le_trans hS (e.le b)) fun j n hj => e.cell b (o + j) _ ?_ (h j n hj)
    have := (List.getElem?_eq_some_iff.1 hj).1
    omega
  | sl0 z a c => exact .sl0 z a c
  | sl z xs b o c vals hz hc hS hr hv hx ih =>
    exact .sl z xs b o c vals hz hc (Nat.le_trans hS (e.le b)) hr (fun j hj => e.cell b (o + j) _ (by omega) (hv j hj)) ih
def Owned (g : Gh) (w : World) (t : Nat) (x : DV) (v : Value) : Prop :=
  v = .slice none 0 0 ∨ ∃ b cap arr e, v = .slice (some ⟨b, 0, none⟩) x.len cap ∧ g.who b = some (.tok t) ∧ w.heap[b]? = some (.cells arr e (0, 0)) ∧ x.len ≤ cap ∧ arr.size = cap * x.sz ∧ g.S b = x.len * x.sz
def EpAt (S : Nat → Nat) (w : World) (row : List DV) (v : Value) : Prop :=
  ∃ b o, v = .pointer (some ⟨b, o, none⟩) ∧ o + row.length ≤ S b ∧ ∀ (j : Nat) (x : DV), row[j]? = some x → ∃ u, w.cell? ⟨b, o + j, none⟩ = some u ∧ RepD S w x u
theorem EpAt.mono {S S' : Nat → Nat} {w w' : World} (e : Ext S w S' w') {row : List DV} {v : Value} (h : EpAt S w row v) : EpAt S' w' row v := by
  obtain ⟨b, o, hv, hS, hx⟩ := h
  refine ⟨b, o, hv, Nat.le_trans hS (e.le b), fun j x hj => ?_⟩
  obtain ⟨u, hu, hr⟩ := hx j x hj
  have := (List.getElem?_eq_some_iff.1 hj).1
  exact ⟨u, e.cell b (o + j) u (by omega) hu, RepD.mono e hr⟩
def RepC (g : Gh) (w : World) : CV → Value → Prop
  | .d x, v => RepD g.S w x v
  | .own t x, v => RepD g.S w x v ∧ Owned g w t x v
  | .fn f caps, v => v = .func (.func f) #[] (caps.map fun c => Value.pointer (some ⟨g.B c.1, c.2, none⟩)).toArray
  | .ptr b o none, v => v = .pointer (some ⟨g.B b, o, none⟩)
  | .ptr b o (some (n, some c)), v => v = .slice (some ⟨g.B b, o, none⟩) n c ∧ n ≤ c
  | .ptr b o (some (n, none)), v => ∃ c, v = .slice (some ⟨g.B b, o, none⟩) n c ∧ n ≤ c
  | .ep row, v => ∃ b o, v = .pointer (some ⟨b, o, none⟩) ∧ o + row.length ≤ g.S b ∧ ∀ (j : Nat) (x : DV), row[j]? = some x → ∃ u, w.cell? ⟨b, o + j, none⟩ = some u ∧ RepD g.S w x u
  | .clo f caps, v => ∃ ps : List Value, v = .func (.func f) #[] ps.toArray ∧ All2 (EpAt g.S w) caps ps
  | .yl l, v => v = .func (.yield (l + g.B yN)) #[] #[]
  | .u, _ => True
  | .un, v => v = undef
def RepK (g : Gh) (w : World) (c : CV) (v : Value) : Prop := RepC g w c v ∧ v.oneCell' = true
def RepA (g : Gh) (w : World) : AV → Value → Prop
  | .one true cs, v => ∃ l, v = .agg (List.toArray l) ∧ All2 (RepK g w) cs l
  | .one false cs, v => ∃ c, cs = [c] ∧ RepC g w c v
  | .tup vs, v => ∃ l, v = .tuple (List.toArray l) ∧ All2 (fun (p : Bool × List CV) u => match p with
      | (true, cs) => ∃ l, u = .agg (List.toArray l) ∧ All2 (RepK g w) cs l
      | (false, cs) => ∃ c, cs = [c] ∧ RepC g w c u) vs l
def BoxAt (g : Gh) (w : World) (b : Nat) (cells : List CV) : Prop :=
  g.who (g.B b) = some (.box b) ∧ g.S (g.B b) = 0 ∧ ∃ l q e, w.heap[g.B b]? = some (.cells (List.toArray (l ++ q)) e (0, 0)) ∧ All2 (RepK g w) cells l
theorem RepC.one {g : Gh} {w : World} {c : CV} {v : Value} (h : RepC g w c v) (hs : c.sure = true) : v.oneCell' = true := by
  cases c with
  | d x => exact RepD.one h
  | own t x => exact RepD.one h.1
  | fn f caps => rw [show v = _ from h]; rfl
  | ptr b o r =>
    rcases r with _ | ⟨n, _ | c⟩
    · rw [show v = _ from h]; rfl
    · obtain ⟨c, rfl, _⟩ := h; rfl
    · rw [h.1]; rfl
  | ep row => obtain ⟨b, o, rfl, _⟩ := h; rfl
  | clo f caps => obtain ⟨ps, rfl, _⟩ := h; rfl
  | yl l => rw [show v = _ from h]; rfl
  | u => simp [CV.sure] at hs
  | un => simp [CV.sure] at hs
theorem RepC.ptr_iff {g g' : Gh} {w w' : World} {b b' o : Nat} {r : Option (Nat × Option Nat)} {v : Value} (hB : g'.B b' = g.B b) (h : RepC g w (.ptr b o r) v) : RepC g' w' (.ptr b' o r) v := by
  rcases r with _ | ⟨n, _ | c⟩ <;> simp only [RepC, hB] at * <;> exact h
theorem RepC.dv {g : Gh} {w : World} {c : CV} {v : Value} {x : DV} (h : RepC g w c v) (hs : c.dv = some x) : RepD g.S w x v := by
  cases c with
  | d y => simp [CV.dv] at hs; subst hs; exact h
  | own t y => simp [CV.dv] at hs; subst hs; exact h.1
  | _ => simp [CV.dv] at hs
/-! ### A call's world -/
structure Ent where
  w0 : World
  S0 : Nat → Nat
  who0 : Nat → Option Owner
  B0 : Nat → Nat
  n : Nat
  df : List Deferred
  top : Nat
structure OKW (E : Ent) (g : Gh) (w : World) : Prop where
  os : w.os = E.w0.os
  out : w.output = E.w0.output
  tape : w.tape = E.w0.tape
  size : E.w0.heap.size ≤ w.heap.size
  fresh : ∀ b, w.heap.size ≤ b → g.S b = 0 ∧ g.who b = none
  oldS : ∀ b, b < E.w0.heap.size → ((∀ t, E.who0 b ≠ some (.tok t)) → g.S b = E.S0 b) ∧ g.who b = E.who0 b
  old : ∀ b, b < E.w0.heap.size → E.who0 b = none → w.heap[b]? = E.w0.heap[b]?
  pB : ∀ b, passed ≤ b → b < E.top → g.B b = E.B0 b
  ext : Ext E.S0 E.w0 g.S w
structure Rel (E : Ent) (g : Gh) (s : St) (a : Act) (w : World) : Prop where
  ok : OKW E g w
  df : a.defers = E.df
  sz : a.tmps.size = E.n
  tm : ∀ t, RepA g w (s.tm t) (a.tmps.getD t undef)
  bx : ∀ b cells, s.bx b = some cells → BoxAt g w b cells
end Go.Proofs.Ythmdefgepnkgiaa.Eng
