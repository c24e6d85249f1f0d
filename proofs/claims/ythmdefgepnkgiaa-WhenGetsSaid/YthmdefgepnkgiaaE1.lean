/- The evaluator over plain values: what a Go function's text comes to, told without memory. Conditions: none (definitions). -/
import Derived.Deep.AppendSrc
import Derived.Deep.MidRow
import Derived.Laws.MakeOwn
import Derived.Laws.Strings2
import Derived.Laws.BytesString
import Derived.LoopN
import Derived.Orders
import Derived.RowKit3
namespace Go.Proofs.Ythmdefgepnkgiaa.Eng
open Go
inductive DV where
  | int (k : IntKind) (n : Int)
  | bool (b : Bool)
  | str (s : ByteArray)
  | ints (k : IntKind) (l : List Int)
  | sl (sz : Nat) (xs : List (List DV))
inductive CV where
  | d (x : DV)
  | own (t : Nat) (x : DV)
  | fn (f : FuncId) (caps : List (Nat × Nat))
  | ptr (b : Nat) (o : Nat) (r : Option (Nat × Option Nat))
  | ep (row : List DV)
  | clo (f : FuncId) (caps : List (List DV))
  | yl (l : Nat)
  | u
  | un
inductive AV where
  | one (a : Bool) (cs : List CV)
  | tup (vs : List (Bool × List CV))
abbrev AV.c (x : CV) : AV := .one false [x]
abbrev AV.int (k : IntKind) (n : Int) : AV := .one false [.d (.int k n)]
abbrev AV.bool (b : Bool) : AV := .one false [.d (.bool b)]
abbrev TM := Nat → AV
abbrev BX := Nat → Option (List CV)
structure St where
  tm : Nat → AV
  bx : Nat → Option (List CV)
abbrev Res := AV × List (List CV)
/-- What a call comes to, handed on. -/
structure CallK where
  go : ∀ {R : Type}, (Res → Option R) → Option R
  nat : ∀ {R : Type} (K : Res → Option R), go K = (go some).bind K
def CallK.of (o : Option Res) : CallK := ⟨fun K => match o with | some r => K r | none => none, fun K => by cases o <;> rfl⟩
structure TI where
  desc : TypeDesc
  size : Nat
  bytes : Nat
  zero : List DV
  eqOk : Bool
/-- What is done ahead of a region: a box becomes a row that stays; a row becomes a box. -/
inductive Prep where
  | frz (b : Nat) (e : TypeId)
  | thaw (t : Nat) (nb : Nat)
structure Ctx where
  ty : TypeId → Option TI
  call : FuncId → List AV → List (List CV) → CallK
  n : Nat
  iter : FuncId → List (List DV) → Option (List (List (Bool × List DV)))
  mu : Nat → Bool
  prep : Nat → List Prep
  pre : FuncId → List AV → List (List CV) → Bool
def upd {α : Type} (f : Nat → α) (d : Nat) (v : α) : Nat → α := fun t => bif Nat.beq t d then v else f t
def tk (d j : Nat) : Nat := d * 64 + j
def passed : Nat := 1000000
/-- The name of who is handed what an iterator tells. -/
def yN : Nat := 4000000
/-! ### Values -/
def DV.len : DV → Nat
  | .ints _ l => l.length
  | .sl _ xs => xs.length
  | _ => 0
def DV.sz : DV → Nat
  | .ints _ _ => 1
  | .sl sz _ => sz
  | _ => 0
def CV.dv : CV → Option DV
  | .d x => some x
  | .own _ x => some x
  | _ => none
def CV.unfl (t : Nat) : CV → CV
  | .own t' (.ints k l) => bif Nat.beq t' t then .d (.ints k l) else .own t' (.ints k l)
  | .own t' (.sl z l) => bif Nat.beq t' t then .d (.sl z l) else .own t' (.sl z l)
  | c => c
/-- Without the mark. -/
def CV.pl : CV → CV
  | .own _ (.ints k l) => .d (.ints k l)
  | .own _ (.sl z l) => .d (.sl z l)
  | c => c
def CV.unptr (b : Nat) : CV → CV
  | .ptr b' o r => bif Nat.beq b' b then .u else .ptr b' o r
  | .fn f cs => bif cs.any (fun c => Nat.beq c.1 b) then .u else .fn f cs
  | .yl l => bif Nat.beq yN b then .u else .yl l
  | c => c
def CV.strip : CV → Option CV
  | .d x => some (.d x)
  | .own _ x => some (.d x)
  | _ => none
def AV.map (f : CV → CV) : AV → AV
  | .one a cs => .one a (cs.map f)
  | .tup vs => .tup (vs.map fun p => (p.1, p.2.map f))
def St.map (f : CV → CV) (s : St) : St := ⟨fun t => (s.tm t).map f, fun b => (s.bx b).map (·.map f)⟩
def AV.cells : AV → Option (Bool × List CV)
  | .one a cs => some (a, cs)
  | .tup _ => none
/-- All have the property, in order. -/
def allD : List CV → Option (List DV)
  | [] => some []
  | c :: r => match c.dv with
    | some x => match allD r with
      | some l => some (x :: l)
      | none => none
    | none => none
def CV.sure : CV → Bool
  | .u => false
  | .un => false
  | _ => true
def TI.elem? (i : TI) : Option TypeId := match i.desc with | .slice e => some e | _ => none
def TI.agg (i : TI) : Bool := match i.desc with | .struct _ => true | .array _ _ => true | _ => false
/-- The empty row of a kind of element. -/
def emptyOf (X : Ctx) (e : TypeId) : Option DV :=
  match X.ty e with
  | some i => match i.desc with
    | .int k => some (.ints k [])
    | _ => some (.sl i.size [])
  | none => none
def zeroC (t j : Nat) : DV → CV
  | .ints k l => .own (tk t j) (.ints k l)
  | .sl s l => .own (tk t j) (.sl s l)
  | x => .d x
def zeroCs (t : Nat) : Nat → List DV → List CV
  | _, [] => []
  | j, x :: r => zeroC t j x :: zeroCs t (j + 1) r
/-! ### Values of a kind -/
def asI {R : Type} (k : IntKind) (x : DV) (K : Int → Option R) : Option R := match x with | .int k' n => bif decide (k' = k) then K n else none | _ => none
def asB {R : Type} (x : DV) (K : Bool → Option R) : Option R := match x with | .bool b => K b | _ => none
def asS {R : Type} (x : DV) (K : ByteArray → Option R) : Option R := match x with | .str b => K b | _ => none
def asR {R : Type} (k : IntKind) (x : DV) (K : List Int → Option R) : Option R := match x with | .ints k' l => bif decide (k' = k) then K l else none | _ => none
def asL {R : Type} (z : Nat) (x : DV) (K : List (List DV) → Option R) : Option R := match x with | .sl z' l => bif Nat.beq z' z then K l else none | _ => none
def unconsF {R : Type} (row : List DV) (K : DV → List DV → Option R) : Option R := match row with | x :: r => K x r | [] => none
/-- A value of the kind that another one has. -/
def shapeF {R : Type} (z x : DV) (K : DV → Option R) : Option R :=
  match z with
  | .int k _ => asI k x fun n => K (.int k n)
  | .bool _ => asB x fun b => K (.bool b)
  | .str _ => asS x fun s => K (.str s)
  | .ints k _ => asR k x fun l => K (.ints k l)
  | .sl z _ => asL z x fun l => K (.sl z l)
def typedF {R : Type} : List DV → List DV → (List CV → Option R) → Option R
  | [], _, K => K []
  | z :: zs, row, K => unconsF row fun x rest => shapeF z x fun x => typedF zs rest fun cs => K (.d x :: cs)
theorem shapeF_eq {R : Type} {z x : DV} {K : DV → Option R} {r : R} (h : shapeF z x K = some r) : K x = some r := by
  cases z <;> cases x <;> simp only [shapeF, asI, asB, asS, asR, asL] at h <;> first | exact h | cases h | skip
  · rename_i k _ k' n
    by_cases e : k' = k
    · subst e; simpa using h
    · simp [e] at h
  · rename_i k _ k' n
    by_cases e : k' = k
    · subst e; simpa using h
    · simp [e] at h
  · rename_i k _ k' n
    by_cases e : k' = k
    · subst e; simpa using h
    · have : Nat.beq k' k = false := by
        cases hb : Nat.beq k' k
        · rfl
        · exact absurd (Nat.eq_of_beq_eq_true hb) e
      simp [this] at h
theorem typedF_eq {R : Type} : ∀ {zs row : List DV} {K : List CV → Option R} {r : R}, typedF zs row K = some r → zs.length ≤ row.length ∧ K ((row.take zs.length).map .d) = some r
  | [], _, _, _, h => ⟨Nat.zero_le _, h⟩
  | z :: zs, [], _, _, h => by cases h
  | z :: zs, x :: row, K, r, h => by
    simp only [typedF, unconsF] at h
    obtain ⟨h1, h2⟩ := typedF_eq (shapeF_eq h)
    exact ⟨Nat.succ_le_succ h1, h2⟩
theorem shapeF_nat {R : Type} (z x : DV) (K : DV → Option R) : shapeF z x K = (shapeF z x some).bind K := by
  cases z <;> cases x <;> simp only [shapeF, asI, asB, asS, asR, asL, Bool.cond_eq_ite] <;> first | rfl | (split <;> rfl)
theorem typedF_nat {R : Type} : ∀ (zs row : List DV) (K : List CV → Option R), typedF zs row K = (typedF zs row some).bind K
  | [], _, _ => rfl
  | z :: zs, [], _ => rfl
  | z :: zs, x :: row, K => by
    simp only [typedF, unconsF]
    rw [shapeF_nat, shapeF_nat z x (fun x => typedF zs row fun cs => some (.d x :: cs)), Option.bind_assoc]
    congr 1; funext y
    rw [typedF_nat zs row (fun cs => K (.d y :: cs)), typedF_nat zs row (fun cs => some (.d y :: cs)), Option.bind_assoc]
    rfl
/-! ### Operands -/
def ev (X : Ctx) (s : St) (d : Nat) (T : TypeId) : Operand → Option AV
  | .tmp t => some (s.tm t)
  | .const (.int k n) => some (.int k n)
  | .const (.bool b) => some (.bool b)
  | .const (.string b) => some (.c (.d (.str b)))
  | .const (.slice none 0 0) => match X.ty T with
    | some i => match i.elem? with
      | some e => match emptyOf X e with
        | some x => some (.c (.own (tk d 0) x))
        | none => none
      | none => none
    | none => none
  | .func f => some (.c (.fn f []))
  | .const .nilFunc => some (.c .u)
  | _ => none
/-- One cell. -/
def evC (s : St) : Operand → Option CV
  | .tmp t => match s.tm t with
    | .one false [c] => some c
    | _ => none
  | .const (.int k n) => some (.d (.int k n))
  | .const (.bool b) => some (.d (.bool b))
  | .const (.string b) => some (.d (.str b))
  | .func f => some (.fn f [])
  | _ => none
def evI (s : St) (x : Operand) : Option (IntKind × Int) :=
  match evC s x with
  | some c => match c.pl with
    | .d (.int k n) => some (k, n)
    | _ => none
  | none => none
def evB (s : St) (x : Operand) : Option Bool :=
  match evC s x with
  | some c => match c.pl with
    | .d (.bool b) => some b
    | _ => none
  | none => none
def bitsI (op : BinOp) (k : IntKind) (x y : Int) : Int :=
  let a := BitVec.ofInt k.bits x
  let b := BitVec.ofInt k.bits y
  match op with
  | .and => k.wrap (a &&& b).toNat
  | .or => k.wrap (a ||| b).toNat
  | .xor => k.wrap (a ^^^ b).toNat
  | _ => k.wrap (a &&& ~~~b).toNat
def leI : Int → Int → Bool
  | .ofNat a, .ofNat b => Nat.ble a b
  | .negSucc _, .ofNat _ => true
  | .ofNat _, .negSucc _ => false
  | .negSucc a, .negSucc b => Nat.ble b a
def ltI (x y : Int) : Bool := !leI y x
theorem leI_eq (x y : Int) : leI x y = decide (x ≤ y) := by
  have hb : ∀ a b : Nat, Nat.ble a b = decide (a ≤ b) := fun a b => by
    rw [Bool.eq_iff_iff]; simp
  rcases x with a | a <;> rcases y with b | b <;> simp only [leI, hb]
  · congr 1; simp
  · symm; apply decide_eq_false; rw [Int.negSucc_eq]; show ¬ ((a : Int) ≤ _); omega
  · symm; apply decide_eq_true; rw [Int.negSucc_eq]; show _ ≤ (b : Int); omega
  · congr 1; rw [eq_iff_iff, Int.negSucc_eq, Int.negSucc_eq]; omega
theorem ltI_eq (x y : Int) : ltI x y = decide (x < y) := by
  unfold ltI; rw [leI_eq, Bool.eq_iff_iff]; simp
def eqI (x y : Int) : Bool := x == y
def eqS (x y : ByteArray) : Bool := x.toList == y.toList
def leN (x y : Nat) : Bool := decide (x ≤ y)
def ltN (x y : Nat) : Bool := decide (x < y)
def addS (x y : ByteArray) : ByteArray := x ++ y
/-- An operation on two whole numbers of one kind. -/
def binI {R : Type} (op : BinOp) (k : IntKind) (x y : Int) (K : DV → Option R) : Option R :=
  match op with
  | .add => K (.int k (k.wrap (x + y)))
  | .sub => K (.int k (k.wrap (x - y)))
  | .mul => K (.int k (k.wrap (x * y)))
  | .quo => bif eqI y 0 then none else K (.int k (k.wrap (x.tdiv y)))
  | .rem => bif eqI y 0 then none else K (.int k (x.tmod y))
  | .and => K (.int k (bitsI .and k x y))
  | .or => K (.int k (bitsI .or k x y))
  | .xor => K (.int k (bitsI .xor k x y))
  | .andNot => K (.int k (bitsI .andNot k x y))
  | .eql => K (.bool (eqI x y))
  | .neq => K (.bool (!eqI x y))
  | .lss => K (.bool (ltI x y))
  | .leq => K (.bool (leI x y))
  | .gtr => K (.bool (ltI y x))
  | .geq => K (.bool (leI y x))
  | _ => none
def shiftI {R : Type} (op : BinOp) (k : IntKind) (x y : Int) (K : DV → Option R) : Option R :=
  bif ltI y 0 then none else
  match op with
  | .shl => K (.int k (k.wrap (x * 2 ^ (min y.toNat k.bits))))
  | .shr => K (.int k (x.fdiv (2 ^ (min y.toNat k.bits))))
  | _ => none
def binS {R : Type} (op : BinOp) (x y : ByteArray) (K : DV → Option R) : Option R :=
  match op with
  | .add => bif leN (x.size + y.size) 9223372036854775807 then K (.str (addS x y)) else none
  | .eql => K (.bool (eqS x y))
  | .neq => K (.bool (!eqS x y))
  | .lss => K (.bool (Op.bytesLess x.toList y.toList))
  | .gtr => K (.bool (!(Op.bytesLess x.toList y.toList || eqS x y)))
  | .leq => K (.bool (Op.bytesLess x.toList y.toList || eqS x y))
  | .geq => K (.bool (!Op.bytesLess x.toList y.toList))
  | _ => none
def isShift : BinOp → Bool
  | .shl => true
  | .shr => true
  | _ => false
def bin {R : Type} (X : Ctx) (op : BinOp) (T : TypeId) (a b : CV) (K : DV → Option R) : Option R :=
  match a, b with
  | .d (.int k x), .d (.int k' y) => bif isShift op then shiftI op k x y K else bif decide (k = k') then binI op k x y K else none
  | .d (.str x), .d (.str y) => binS op x y K
  | .d (.bool x), .d (.bool y) => match X.ty T with
    | some i => match i.desc with
      | .bool => match op with
        | .eql => K (.bool (x == y))
        | .neq => K (.bool (!(x == y)))
        | _ => none
      | _ => none
    | none => none
  | _, _ => none
def un {R : Type} (op : UnOp) (a : CV) (K : DV → Option R) : Option R :=
  match op, a with
  | .neg, .d (.int k n) => K (.int k (k.wrap (0 - n)))
  | .not, .d (.bool b) => K (.bool (!b))
  | .xor, .d (.int k n) => K (.int k (bitsI .xor k (if k.signed then -1 else k.max) n))
  | _, _ => none
def bytesOf (l : List Int) : ByteArray := ⟨(l.map fun n => n.toNat.toUInt8).toArray⟩
def intsOf (s : ByteArray) : List Int := s.data.toList.map fun b => (b.toNat : Int)
/-- A change of kind. 't': the new row's own mark. -/
def conv {R : Type} (X : Ctx) (S T : TypeId) (a : CV) (_t : Nat) (K : CV → Option R) : Option R :=
  match X.ty S, X.ty T with
  | some i, some j => match i.desc, j.desc, a with
    | .int _, .int k, .d (.int _ n) => K (.d (.int k (k.wrap n)))
    | .string, .string, .d (.str s) => K (.d (.str s))
    | .slice e, .string, c => match X.ty e, c.dv with
      | some ie, some (.ints .u8 l) => match ie.desc with
        | .int .u8 => bif leN l.length 140737488355328 then K (.d (.str (bytesOf l))) else none
        | _ => none
      | _, _ => none
    | .string, .slice e, .d (.str s) => match X.ty e with
      | some ie => match ie.desc with
        | .int .u8 => bif leN s.size 140737488355328 then K (.d (.ints .u8 (intsOf s))) else none
        | _ => none
      | none => none
    | _, _, _ => none
  | _, _ => none
def TI.field? (i : TI) (f : Nat) : Option Field := match i.desc with | .struct fs => fs[f]? | _ => none
/-! ### Rows -/
def nth {R : Type} {α : Type} (l : List α) (i : Int) (K : α → Option R) : Option R :=
  bif leI 0 i then (match l[i.toNat]? with | some x => K x | none => none) else none
def dropI {α : Type} (l : List α) (i : Int) : List α := l.drop i.toNat
def takeI {α : Type} (l : List α) (i : Int) : List α := l.take i.toNat
/-- x[lo:hi]. -/
def cutI {R : Type} {α : Type} (l : List α) (lo hi : Option Int) (K : List α → Option R) : Option R :=
  match lo, hi with
  | none, none => K l
  | some a, none => bif leI 0 a then bif leI a l.length then K (dropI l a) else none else none
  | none, some b => bif leI 0 b then bif leI b l.length then K (takeI l b) else none else none
  | some a, some b => bif leI 0 a then bif leI a b then bif leI b l.length then K (dropI (takeI l b) a) else none else none else none
def cutS {R : Type} (s : ByteArray) (lo hi : Option Int) (K : ByteArray → Option R) : Option R :=
  match lo, hi with
  | none, none => K s
  | some a, none => bif leI 0 a then bif leI a s.size then K (s.extract a.toNat s.size) else none else none
  | none, some b => bif leI 0 b then bif leI b s.size then K (s.extract 0 b.toNat) else none else none
  | some a, some b => bif leI 0 a then bif leI a b then bif leI b s.size then K (s.extract a.toNat b.toNat) else none else none else none
def cut {R : Type} (x : DV) (lo hi : Option Int) (K : DV → Option R) : Option R :=
  match x with
  | .ints k l => cutI l lo hi fun r => K (.ints k r)
  | .sl sz xs => cutI xs lo hi fun r => K (.sl sz r)
  | .str s => cutS s lo hi fun r => K (.str r)
  | _ => none
def evO (s : St) : Option Operand → Option (Option Int)
  | none => some none
  | some x => match evI s x with
    | some (_, n) => some (some n)
    | none => none
/-- Whole numbers of one kind. -/
def intsIn (k : IntKind) : List (List DV) → Option (List Int)
  | [] => some []
  | [.int k' n] :: r => bif decide (k' = k) then (match intsIn k r with | some l => some (n :: l) | none => none) else none
  | _ => none
/-- The elements that a row is made of. -/
def rowOf (i : TI) (rows : List (List DV)) : Option DV :=
  match i.desc with
  | .int k => bif Nat.beq i.size 1 then (match intsIn k rows with
    | some l => some (.ints k l)
    | none => none) else none
  | _ => bif Nat.beq i.size 0 then none else bif rows.all (fun r => Nat.beq r.length i.size) then some (.sl i.size rows) else none
/-- The parts of a written row, in order. -/
def partsOf (X : Ctx) (s : St) (T : TypeId) : Nat → List (Nat × Operand) → Option (List (List DV))
  | _, [] => some []
  | j, (i, x) :: r => bif Nat.beq i j then (match ev X s 0 T x with
      | some (.one _ cs) => match allD cs with
        | some row => match partsOf X s T (j + 1) r with
          | some l => some (row :: l)
          | none => none
        | none => none
      | _ => none) else none
def setAt {α : Type} (cells : List α) (o : Nat) : List α → List α
  | [] => cells
  | c :: r => setAt (cells.set o c) (o + 1) r
/-- Where a part of a struct, or of an array, lies. -/
def placeOf (X : Ctx) (i : TI) (f : Nat) : Option (TypeId × Nat × Nat) :=
  match i.desc with
  | .struct fs => match fs[f]? with
    | some fd => match X.ty fd.type with
      | some fi => some (fd.type, fd.offset, fi.size)
      | none => none
    | none => none
  | .array _ e => match X.ty e with
    | some ei => some (e, f * ei.size, ei.size)
    | none => none
  | _ => none
def placesOk (X : Ctx) (i : TI) : Bool :=
  match i.desc with
  | .struct fs => fs.toList.all fun f => (X.ty f.type).isSome
  | .array _ e => (X.ty e).isSome
  | _ => false
/-- The parts of a struct. -/
def fillOf (X : Ctx) (s : St) (d : Nat) (i : TI) (cells : List CV) : List (Nat × Operand) → Option (List CV)
  | [] => some cells
  | (f, x) :: r => match placeOf X i f with
    | some (t, off, size) => match ev X s d t x with
      | some (.one _ cs) => bif Nat.beq cs.length size && cs.all CV.sure && Nat.ble (off + cs.length) cells.length then fillOf X s d i (setAt cells off cs) r else none
      | _ => none
    | none => none
/-! ### Calls -/
/-- What is handed on: names of boxes as the callee sees them. -/
def nameOf (names : List Nat) (b : Nat) : Nat := passed + names.idxOf b
def namesIn : List CV → List Nat
  | [] => []
  | .ptr b _ _ :: r => let l := namesIn r; bif l.elem b then l else b :: l
  | .fn _ cs :: r => cs.foldr (fun c l => bif l.elem c.1 then l else c.1 :: l) (namesIn r)
  | _ :: r => namesIn r
def handC (names : List Nat) : CV → CV
  | .own _ x => .d x
  | .ptr b o r => .ptr (nameOf names b) o r
  | .fn f cs => .fn f (cs.map fun c => (nameOf names c.1, c.2))
  | .yl _ => .u
  | c => c
def stripAll : List CV → Option (List CV)
  | [] => some []
  | c :: r => match c.strip, stripAll r with
    | some x, some l => some (x :: l)
    | _, _ => none
/-- The boxes that are handed on. -/
def boxesOf (s : St) (names : List Nat) : Option (List (List CV)) :=
  match names with
  | [] => some []
  | b :: r => match s.bx b with
    | some cs => match stripAll cs, boxesOf s r with
      | some c', some l => some (c' :: l)
      | _, _ => none
    | none => none
def CV.only : CV → CV
  | .d x => .d x
  | _ => .u
def putBoxes (bx : Nat → Option (List CV)) : List Nat → List (List CV) → Nat → Option (List CV)
  | b :: r, o :: q => upd (putBoxes bx r q) b (some (o.map CV.only))
  | _, _ => bx
/-- A result's marks, as the caller sees them. -/
def adC (d : Nat) : CV → CV
  | .d x => .d x
  | .own t x => .own (tk d t) x
  | .clo f rows => .clo f rows
  | _ => .u
def scalarD : TypeDesc → Bool
  | .int _ => true
  | .bool => true
  | .string => true
  | _ => false
/-- Two values of a plain kind: are they one? -/
def eqC {R : Type} (t : TypeDesc) (c d : CV) (K : Bool → Option R) : Option R :=
  match t, c, d with
  | .int _, .d (.int k x), .d (.int k' y) => bif decide (k = k') then K (eqI x y) else none
  | .bool, .d (.bool x), .d (.bool y) => K (x == y)
  | .string, .d (.str x), .d (.str y) => K (eqS x y)
  | _, _, _ => none
def eqCs {R : Type} : List TypeDesc → List CV → List CV → (Bool → Option R) → Option R
  | [], [], [], K => K true
  | t :: ts, c :: cs, d :: ds, K => eqC t c d fun b => eqCs ts cs ds fun b' => K (b && b')
  | _, _, _, _ => none
def fieldDs (X : Ctx) : Nat → List Field → Option (List TypeDesc)
  | _, [] => some []
  | j, f :: r => bif f.name != "_" && Nat.beq f.offset j then (match X.ty f.type with
    | some i => match fieldDs X (j + 1) r with
      | some l => some (i.desc :: l)
      | none => none
    | none => none) else none
/-- The kinds of what an array, or a struct, is made of. -/
def descsOf (X : Ctx) (i : TI) : Option (List TypeDesc) :=
  match i.desc with
  | .array m e => match X.ty e with
    | some ei => bif Nat.beq ei.size 1 && Nat.ble 1 m then some (List.replicate m ei.desc) else none
    | none => none
  | .struct fs => bif i.eqOk then fieldDs X 0 fs.toList else none
  | _ => none
def eqAgg {R : Type} (X : Ctx) (op : BinOp) (T : TypeId) (cs ds : List CV) (K : DV → Option R) : Option R :=
  match X.ty T with
  | some i => match descsOf X i with
    | some ts => match op with
      | .eql => eqCs ts cs ds fun b => K (.bool b)
      | .neq => eqCs ts cs ds fun b => K (.bool (!b))
      | _ => none
    | none => none
  | none => none
end Go.Proofs.Ythmdefgepnkgiaa.Eng
