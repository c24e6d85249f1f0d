/- The evaluator over plain values, the second part: operations, regions, code, functions. Conditions: none (definitions). -/
import Derived.Test.YthmdefgepnkgiaaE1
namespace Go.Proofs.Ythmdefgepnkgiaa.Eng
open Go
def St.put (s : St) (d : Option Nat) (v : AV) : St := ⟨match d with | some d => upd s.tm d v | none => s.tm, s.bx⟩
def appD (x y : DV) : Option DV :=
  match x, y with
  | .ints k l, .ints k' l' => bif decide (k = k') then some (.ints k (l ++ l')) else none
  | .sl z l, .sl z' l' => bif Nat.beq z z' then some (.sl z (l ++ l')) else none
  | .ints .u8 l, .str b => some (.ints .u8 (l ++ intsOf b))
  | _, _ => none
def DV.count : DV → Nat
  | .ints _ l => l.length
  | .sl _ xs => xs.length
  | .str s => s.size
  | _ => 0
def evAll (X : Ctx) (s : St) (d : Nat) : List Operand → List TypeId → Option (List AV)
  | [], _ => some []
  | x :: r, ts => match ev X s d (ts.headD 0) x with
    | some v => match evAll X s d r ts.tail with
      | some l => some (v :: l)
      | none => none
    | none => none
def CV.addr : CV → Option (Nat × Nat)
  | .ptr b o none => some (b, o)
  | _ => none
def capsOf (s : St) : List Operand → Option (List (Nat × Nat))
  | [] => some []
  | x :: r => match evC s x with
    | some c => match c.addr with
      | some p => match capsOf s r with
        | some l => some (p :: l)
        | none => none
      | none => none
    | none => none
def handAll (names : List Nat) : List AV → Option (List AV)
  | [] => some []
  | .one a cs :: r => match handAll names r with
    | some l => some (.one a (cs.map (handC names)) :: l)
    | none => none
  | .tup _ :: _ => none
def cellsAll : List AV → List CV
  | [] => []
  | .one _ cs :: r => cs ++ cellsAll r
  | .tup _ :: r => cellsAll r
/-- A call of a function of the program. -/
def callF {R : Type} (X : Ctx) (q : Option (List Nat)) (s : St) (d : Nat) (f : CV) (args : List AV) (K : AV → (Nat → Option (List CV)) → Option R) : Option R :=
  match f with
  | .fn g caps =>
    bif q.isSome && !(namesIn (cellsAll (args ++ caps.map fun c => AV.c (.ptr c.1 c.2 none)))).isEmpty then none else
    match handAll (namesIn (cellsAll (args ++ caps.map fun c => AV.c (.ptr c.1 c.2 none)))) (args ++ caps.map fun c => AV.c (.ptr c.1 c.2 none)), boxesOf s (namesIn (cellsAll (args ++ caps.map fun c => AV.c (.ptr c.1 c.2 none)))) with
    | some as, some bs => bif X.pre g as bs then (X.call g as bs).go (fun ro => K (ro.1.map (adC d)) (putBoxes s.bx (namesIn (cellsAll (args ++ caps.map fun c => AV.c (.ptr c.1 c.2 none)))) ro.2)) else none
    | _, _ => none
  | _ => none
/-- 'append': the mark of the row, the new row. -/
def appendF {R : Type} (X : Ctx) (T : TypeId) (x : AV) (y : AV) (K : Nat → DV → Option R) : Option R :=
  match x, y with
  | .one false [.own t x], .one false [c] => match c.dv, X.ty T with
    | some y, some i => match i.elem? with
      | some e => match X.ty e, appD x y with
        | some ei, some z => bif Nat.beq x.sz ei.size && Nat.ble 1 ei.bytes && Nat.ble 1 ei.size && Nat.beq ei.zero.length ei.size then
            bif leN ((x.count + y.count) * ei.bytes) 140737488355328 then K t z else none else none
        | _, _ => none
      | none => none
    | _, _ => none
  | _, _ => none
def rowKind : TypeDesc → Bool
  | .slice _ => true
  | .string => true
  | _ => false
def isRow (X : Ctx) (T : TypeId) : Bool :=
  match X.ty T with
  | some i => match i.desc with
    | .slice _ => true
    | _ => false
  | none => false
def lenF {R : Type} (X : Ctx) (T : TypeId) (c : CV) (K : Int → Option R) : Option R :=
  match c with
  | .ptr _ _ (some (n, _)) => bif isRow X T then K n else none
  | _ =>
  match X.ty T, c.dv with
  | some i, some x => match i.desc, x with
    | .slice _, .ints _ l => K l.length
    | .slice _, .sl _ xs => K xs.length
    | .string, .str s => K s.size
    | _, _ => none
  | _, _ => none
/-- A row's cells, so many. -/
def rowCells : Nat → List DV → List CV
  | 0, _ => []
  | n + 1, row => .d (row.headD (.bool false)) :: rowCells n row.tail
theorem rowCells_eq : ∀ (n : Nat) (row : List DV), n ≤ row.length → rowCells n row = (row.take n).map .d
  | 0, _, _ => by simp [rowCells]
  | n + 1, [], h => by simp at h
  | n + 1, x :: row, h => by
    simp only [rowCells, List.headD_cons, List.tail_cons, List.take_succ_cons, List.map_cons]
    rw [rowCells_eq n row (by simpa using h)]
def loadF {R : Type} (bx : Nat → Option (List CV)) (i : TI) (p : CV) (K : AV → Option R) : Option R :=
  match p with
  | .ptr b o none => match bx b with
    | some cells => bif i.agg then (bif Nat.ble (o + i.size) cells.length then K (.one true ((cells.drop o).take i.size)) else none) else
        match cells[o]? with
        | some c => K (.one false [c])
        | none => none
    | none => none
  | .ep row => bif i.agg then (bif Nat.beq i.zero.length i.size then typedF i.zero row fun cs => K (.one true cs) else none) else
      bif Nat.beq i.zero.length 1 then typedF i.zero row fun cs => K (.one false cs) else none
  | _ => none
def storeF {R : Type} (s : St) (i : TI) (p : CV) (cs : List CV) (K : St → Option R) : Option R :=
  match p with
  | .ptr b o none => match s.bx b with
    | some cells => bif Nat.beq cs.length i.size && cs.all CV.sure && Nat.ble (o + cs.length) cells.length then K ⟨s.tm, upd s.bx b (some (setAt cells o cs))⟩ else none
    | none => none
  | _ => none
def makeF {R : Type} (X : Ctx) (T : TypeId) (n c : Int) (K : DV → Option R) : Option R :=
  match X.ty T with
  | some i => match i.elem? with
    | some e => match X.ty e with
      | some ei => bif leI 0 n then bif leI n c then bif leI (c * ei.bytes) 140737488355328 then
          bif Nat.beq ei.size ei.zero.length && Nat.ble 1 ei.size && Nat.ble 1 ei.bytes then
            match rowOf ei (List.replicate n.toNat ei.zero) with
            | some x => K x
            | none => none
          else none
        else none else none else none
      | none => none
    | none => none
  | none => none
def newBox (s : St) (d : Nat) (cells : List CV) : St :=
  ⟨upd (s.map (CV.unptr d)).tm d (.one false [.ptr d 0 none]), upd (s.map (CV.unptr d)).bx d (some (cells.map (CV.unptr d)))⟩
def newBoxR (s : St) (d : Nat) (cells : List CV) (r : Option (Nat × Option Nat)) : St :=
  ⟨upd (s.map (CV.unptr d)).tm d (.one false [.ptr d 0 r]), upd (s.map (CV.unptr d)).bx d (some (cells.map (CV.unptr d)))⟩
/-- A row's cells. -/
def flatC : DV → Option (List CV)
  | .ints k l => some (l.map fun n => .d (.int k n))
  | .sl _ xs => some (xs.flatten.map .d)
  | _ => none
def chunks (z : Nat) : Nat → List DV → List (List DV)
  | 0, _ => []
  | n + 1, l => l.take z :: chunks z n (l.drop z)
def partRow (o n : Nat) : DV → CV
  | .ints k l => bif Nat.ble (o + n) l.length then .d (.ints k ((l.drop o).take n)) else .u
  | .sl z xs => bif Nat.beq (o % z) 0 && Nat.ble (o / z + n) xs.length then .d (.sl z ((xs.drop (o / z)).take n)) else .u
  | _ => .u
/-- A box that is a row that stays. -/
def CV.frz (b : Nat) (x : DV) : CV → CV
  | .ptr b' o r => bif Nat.beq b' b then (match r with
    | some (n, _) => partRow o n x
    | none => .u) else .ptr b' o r
  | c => c
def frzF {R : Type} (X : Ctx) (s : St) (b : Nat) (e : TypeId) (K : St → Option R) : Option R :=
  match s.bx b, X.ty e with
  | some cells, some ei => match allD cells with
    | some row => bif Nat.blt b passed && Nat.ble 1 ei.size && Nat.beq (row.length / ei.size * ei.size) row.length then
        match rowOf ei (chunks ei.size (row.length / ei.size) row) with
        | some x => K ⟨fun t => (s.tm t).map (CV.frz b x), upd (fun b' => (s.bx b').map (·.map (CV.frz b x))) b none⟩
        | none => none
      else none
    | none => none
  | _, _ => none
/-- Nothing that a row's cells could hold is told any more; the row is a box. -/
def CV.kill (t : Nat) : CV → CV
  | .d (.ints _ _) => .u
  | .d (.sl _ _) => .u
  | .d x => .d x
  | .own t' x => bif Nat.beq t' t then .u else match x with
    | .ints k l => .own t' (.ints k l)
    | _ => .u
  | .ep _ => .u
  | .clo _ _ => .u
  | c => c
def thawF {R : Type} (s : St) (t nb : Nat) (K : St → Option R) : Option R :=
  match s.tm t with
  | .one false [.own t' x] => match flatC x with
    | some cells => bif Nat.ble 1 x.count && Nat.blt nb passed then
        K ⟨upd (fun u => (s.tm u).map fun c => (c.unptr nb).kill t') t (.one false [.ptr nb 0 (some (x.count, none))]), upd (fun b => (s.bx b).map (·.map fun c => (c.unptr nb).kill t')) nb (some (cells.map (CV.kill t')))⟩
      else none
    | none => none
  | _ => none
def prepF {R : Type} (X : Ctx) : List Prep → St → (St → Option R) → Option R
  | [], s, K => K s
  | .frz b e :: r, s, K => frzF X s b e fun s' => prepF X r s' K
  | .thaw t nb :: r, s, K => thawF s t nb fun s' => prepF X r s' K
def fieldF {R : Type} (X : Ctx) (T : TypeId) (f : Nat) (K : Field → TI → Option R) : Option R :=
  match X.ty T with
  | some i => match i.field? f with
    | some fd => match X.ty fd.type with
      | some fi => K fd fi
      | none => none
    | none => none
  | none => none
def ixAddrF {R : Type} (X : Ctx) (T : TypeId) (c : CV) (n : Int) (K : CV → Option R) : Option R :=
  match X.ty T with
  | some i => match i.desc with
    | .slice e => match X.ty e with
      | some ei => match c.dv with
        | some (.ints k l) => bif Nat.beq ei.size 1 then nth l n fun m => K (.ep [.int k m]) else none
        | some (.sl sz xs) => bif Nat.beq ei.size sz then nth xs n fun row => K (.ep row) else none
        | _ => match c with
          | .ptr b o' (some (len, _)) => bif leI 0 n then bif ltI n len then K (.ptr b (o' + n.toNat * ei.size) none) else none else none
          | _ => none
      | none => none
    | .array len e => match X.ty e, c with
      | some ei, .ptr b o' none => bif leI 0 n then bif ltI n len then K (.ptr b (o' + n.toNat * ei.size) none) else none else none
      | _, _ => none
    | _ => none
  | none => none
def cutF {R : Type} (X : Ctx) (T : TypeId) (c : CV) (lo hi : Option Int) (K : DV → Option R) : Option R :=
  match X.ty T with
  | some i => match i.desc, c.dv with
    | .slice e, some (.ints k l) => match X.ty e with
      | some ei => bif Nat.beq 1 ei.size then cutI l lo hi fun r => K (.ints k r) else none
      | none => none
    | .slice e, some (.sl sz l) => match X.ty e with
      | some ei => bif Nat.beq sz ei.size then cutI l lo hi fun r => K (.sl sz r) else none
      | none => none
    | .string, some (.str b) => cutS b lo hi fun r => K (.str r)
    | _, _ => none
  | none => none
/-- A part of a row that lies in a box. -/
def cutP {R : Type} (X : Ctx) (T : TypeId) (b o len : Nat) (cap : Option Nat) (lo hi : Option Int) (K : CV → Option R) : Option R :=
  match X.ty T with
  | some i => match i.desc with
    | .slice e => match X.ty e with
      | some ei => bif leI 0 (lo.getD 0) then bif leI (lo.getD 0) (hi.getD len) then bif leI (hi.getD len) len then bif ltI (lo.getD 0) len then
          K (.ptr b (o + (lo.getD 0).toNat * ei.size) (some ((hi.getD len).toNat - (lo.getD 0).toNat, cap.map (· - (lo.getD 0).toNat)))) else none else none else none else none
      | none => none
    | _ => none
  | none => none
def cutM {R : Type} (X : Ctx) (T : TypeId) (c : CV) (lo hi : Option Int) (m : Int) (K : DV → Option R) : Option R :=
  match c.dv, hi with
  | some x, some h => bif Nat.ble 1 x.sz && leI h m && leI m x.count then cutF X T c lo (some h) K else none
  | _, _ => none
def aggOf (s : St) : Operand → Option (List CV)
  | .tmp t => match s.tm t with
    | .one true cs => some cs
    | _ => none
  | _ => none
/-- The value of an operation that only looks. -/
def valF {R : Type} (X : Ctx) (o : Oper) (s : St) (K : AV → Option R) : Option R :=
  match o.op with
  | .move x => match ev X s (o.dst.getD 0) o.type x with | some v => K v | none => none
  | .assign x => match ev X s (o.dst.getD 0) o.type x with | some v => K v | none => none
  | .pick c a b => match evB s c with
    | some c => bif c then (match evC s a with | some v => K (.c v) | none => none) else (match evC s b with | some v => K (.c v) | none => none)
    | none => none
  | .build T parts => match X.ty T with
    | some i => bif Nat.beq i.zero.length i.size && placesOk X i && Nat.ble i.size 64 then
        match fillOf X s (o.dst.getD 0) i (zeroCs (o.dst.getD 0) 0 i.zero) parts.toList with
        | some cs => K (.one true cs)
        | none => none
      else none
    | none => none
  | .buildSlice T n parts => match X.ty T with
    | some i => match i.elem? with
      | some e => match X.ty e, partsOf X s e 0 parts.toList with
        | some ei, some rows => bif Nat.beq rows.length n && Nat.ble (n * ei.size) 16777216 && Nat.beq ei.zero.length ei.size then
            match rowOf ei rows with
            | some x => K (.c (.own (tk (o.dst.getD 0) 0) x))
            | none => none
          else none
        | _, _ => none
      | none => none
    | none => none
  | .load T p => match X.ty T, evC s p with
    | some i, some p => loadF s.bx i p K
    | _, _ => none
  | .nilCheck x => match evC s x with
    | some (.ptr b f none) => K (.c (.ptr b f none))
    | some (.ep r) => K (.c (.ep r))
    | some (.fn f c) => K (.c (.fn f c))
    | _ => none
  | .binOp op T x y _ => match aggOf s x with
    | some cs => match aggOf s y with
      | some ds => eqAgg X op T cs ds fun r => K (.c (.d r))
      | none => none
    | none => match evC s x, evC s y with
      | some a, some b => bin X op T a.pl b.pl fun r => K (.c (.d r))
      | _, _ => none
  | .unOp op _ x => match evC s x with
    | some a => un op a.pl fun r => K (.c (.d r))
    | none => none
  | .convert S T x => match evC s x with
    | some a => conv X S T a.pl (tk (o.dst.getD 0) 0) fun r => K (.c r)
    | none => none
  | .makeFunc fn first caps => match fn, first.toList, capsOf s caps.toList with
    | .func f, [], some l => K (.c (.fn f l))
    | _, _, _ => none
  | .makeSlice T n c => match evI s n, evI s c with
    | some (_, n), some (_, c) => makeF X T n c fun x => K (.c (.own (tk (o.dst.getD 0) 0) x))
    | _, _ => none
  | .slice T x lo hi mx => match mx with
    | none => match evC s x, evO s lo, evO s hi with
      | some c, some lo, some hi => match c with
        | .ptr b o (some (len, cap)) => cutP X T b o len cap lo hi fun r => K (.c r)
        | _ => cutF X T c lo hi fun r => K (.c (.d r))
      | _, _, _ => none
    | some m => match evC s x, evO s lo, evO s hi, evI s m with
      | some c, some lo, some hi, some (_, m) => cutM X T c lo hi m fun r => K (.c (.d r))
      | _, _, _, _ => none
  | .fieldAddr T x f => match evC s x with
    | some (.ptr b o' none) => fieldF X T f fun fd fi => bif Nat.ble 1 fi.size then K (.c (.ptr b (o' + fd.offset) none)) else none
    | some (.ep row) => fieldF X T f fun fd fi => bif Nat.ble 1 fi.size then (bif leN fd.offset row.length then K (.c (.ep (row.drop fd.offset))) else none) else none
    | _ => none
  | .field T x f => match aggOf s x with
    | some cs => fieldF X T f fun fd fi => bif fi.agg then (bif Nat.ble (fd.offset + fi.size) cs.length then K (.one true ((cs.drop fd.offset).take fi.size)) else none) else
            match cs[fd.offset]? with
            | some c => K (.c c)
            | none => none
    | none => none
  | .indexAddr T x ix => match evC s x, evI s ix with
    | some c, some (_, n) => ixAddrF X T c.pl n fun r => K (.c r)
    | _, _ => none
  | .index T x ix => match X.ty T, evC s x, evI s ix with
    | some i, some c, some (_, n) => match i.desc, c.dv with
      | .string, some (.str b) => nth b.data.toList n fun c => K (.int .u8 (c.toNat : Int))
      | _, _ => none
    | _, _, _ => none
  | .extract x i => match x with
    | .tmp t => match s.tm t with
      | .tup vs => match vs[i]? with
        | some (a, cs) => K (.one a cs)
        | none => none
      | _ => none
    | _ => none
  | .call c => match c.callee with
    | .builtin b => match b with
      | .len => match c.args.toList, c.argTypes.toList with
        | [x], [T] => match evC s x with
          | some c => lenF X T c fun n => K (.int .i64 n)
          | none => none
        | _, _ => none
      | .min => match c.args.toList with
        | [x, y] => match evI s x, evI s y with
          | some (k, m), some (_, n) => K (.int k (bif ltI n m then n else m))
          | _, _ => none
        | _ => none
      | _ => none
    | _ => none
  | _ => none
/-- May a row of this mark be appended to, beside operations that tell these slots? -/
def apartQ (q : Option (List Nat)) (t : Nat) : Bool := match q with | none => true | some ds => ds.all fun d => !Nat.beq (t / 64) d
/-- One operation. 'q': a call may not touch boxes, an append not what the slots told hold. -/
def exec {R : Type} (X : Ctx) (q : Option (List Nat)) (o : Oper) (s : St) (K : St → Option R) : Option R :=
  match o.op with
  | .alloc T => match o.dst, X.ty T with
    | some d, some i => bif Nat.beq i.zero.length i.size then K (newBox s d (zeroCs d 0 i.zero)) else none
    | _, _ => none
  | .box T x => match o.dst, X.ty T, ev X s (o.dst.getD 0) T x with
    | some d, some i, some (.one _ cs) => bif Nat.beq cs.length i.size && cs.all CV.sure then K (newBox s d cs) else none
    | _, _, _ => none
  | .store T p x => match X.ty T, evC s p, ev X s 0 T x with
    | some i, some p, some (.one _ cs) => bif o.dst.isNone then storeF s i p cs K else none
    | _, _, _ => none
  | .call c => match c.callee with
    | .value f => match evC s f, evAll X s 0 c.args.toList c.argTypes.toList with
      | some f, some as => callF X q s (o.dst.getD 0) f as fun v bx => K (St.put ⟨s.tm, bx⟩ o.dst v)
      | _, _ => none
    | .builtin b => match b with
      | .append => match c.args.toList, c.argTypes.toList with
        | [x, y], [T, U] => match ev X s (o.dst.getD 0) T x, ev X s 0 U y with
          | some x, some y => match X.ty U with
            | some ui => bif rowKind ui.desc then appendF X T x y fun t z => bif apartQ q t then K ((s.map (CV.unfl t)).put o.dst (.c (.own t z))) else none else none
            | none => none
          | _, _ => none
        | _, _ => none
      | _ => valF X o s fun v => K (s.put o.dst v)
    | _ => none
  | _ => valF X o s fun v => K (s.put o.dst v)
/-- What an operation of the region has told, by which another one is guarded. -/
def told {R : Type} (ops : Array Oper) (s : St) (j : Nat) (want : Bool) (K : Bool → Option R) : Option R :=
  match ops[j]? with
  | some o => match o.dst with
    | some t => match s.tm t with
      | .one false [.d (.bool b)] => K (bif want then b else !b)
      | .one false [.un] => K false
      | _ => none
    | none => none
  | none => none
def dstOk (n : Nat) : Option Nat → Bool
  | none => true
  | some d => Nat.blt d n && Nat.blt d passed
def step1 {R : Type} (X : Ctx) (ops : Array Oper) (q : Option (List Nat)) (o : Oper) (s : St) (K : St → Option R) : Option R :=
  bif dstOk X.n o.dst then
    match o.guard with
    | none => exec X q o s K
    | some (j, want) => told ops s j want fun b => bif b then exec X q o s K else K (s.put o.dst (.one false [.un]))
  else none
def steps {R : Type} (X : Ctx) (ops : Array Oper) : List (Option (List Nat) × Oper) → St → (St → Option R) → Option R
  | [], s, K => K s
  | (q, o) :: r, s, K => step1 X ops q o s fun s' => steps X ops r s' K
/-- A truth that is asked for is told apart once; behind it, it is written out. -/
def refT {R : Type} (t : Nat) (s : St) (K : St → Option R) : Option R :=
  match s.tm t with
  | .one false [.d (.bool b)] => bif b then K ⟨upd s.tm t (.bool true), s.bx⟩ else K ⟨upd s.tm t (.bool false), s.bx⟩
  | _ => K s
def refG {R : Type} (ops : Array Oper) (o : Oper) (s : St) (K : St → Option R) : Option R :=
  match o.guard with
  | some (j, _) => match ops[j]? with
    | some oj => match oj.dst with
      | some t => refT t s K
      | none => K s
    | none => K s
  | none => K s
def refC {R : Type} (c : Operand) (s : St) (K : St → Option R) : Option R :=
  match c with
  | .tmp t => refT t s K
  | _ => K s
def isMake : Op → Bool
  | .makeSlice _ _ _ => true
  | .buildSlice _ _ _ => true
  | _ => false
/-- Is the operation's row to lie in a box? -/
def isBoxed (X : Ctx) (o : Oper) : Bool :=
  match o.dst with
  | some d => X.mu d && o.guard.isNone && isMake o.op
  | none => false
def boxV {R : Type} (s : St) (d : Nat) (v : AV) (K : St → Option R) : Option R :=
  match v with
  | .one false [.own _ x] => match flatC x with
    | some cells => K (newBoxR s d cells (some (x.count, none)))
    | none => none
  | _ => none
/-- A row that is made and written to: it lies in a box. -/
def stepB {R : Type} (X : Ctx) (o : Oper) (s : St) (K : St → Option R) : Option R :=
  match o.dst with
  | some d => bif Nat.blt d X.n && Nat.blt d passed then
      valF X o s fun v => boxV s d v K
    else none
  | none => none
def stepsM {R : Type} (X : Ctx) (ops : Array Oper) : List Oper → St → (St → Option R) → Option R
  | [], s, K => K s
  | o :: r, s, K => refG ops o s fun s1 => bif isBoxed X o then stepB X o s1 fun s' => stepsM X ops r s' K else step1 X ops none o s1 fun s' => stepsM X ops r s' K
def stepsR {R : Type} (X : Ctx) (ops : Array Oper) : List (Option (List Nat) × Oper) → St → (St → Option R) → Option R
  | [], s, K => K s
  | (q, o) :: r, s, K => refG ops o s fun s1 => step1 X ops q o s1 fun s' => stepsR X ops r s' K
/-! ### What is kept behind a region -/
def forceC {R : Type} (c : CV) (K : CV → Option R) : Option R :=
  match c with
  | .d x => K (.d x)
  | .own t x => K (.own t x)
  | .fn f l => K (.fn f l)
  | .ptr b o r => K (.ptr b o r)
  | .ep r => K (.ep r)
  | .clo f l => K (.clo f l)
  | .yl l => K (.yl l)
  | .u => K .u
  | .un => K .un
def forceCs {R : Type} : List CV → (List CV → Option R) → Option R
  | [], K => K []
  | c :: r, K => forceC c fun c' => forceCs r fun r' => K (c' :: r')
def forceA {R : Type} (v : AV) (K : AV → Option R) : Option R :=
  match v with
  | .one a cs => forceCs cs fun cs' => K (.one a cs')
  | .tup vs => K (.tup vs)
def keepT {R : Type} (s : St) : List Nat → (Nat → AV) → ((Nat → AV) → Option R) → Option R
  | [], f, K => K f
  | t :: r, f, K => forceA (s.tm t) fun v => keepT s r (upd f t v) K
def keepB {R : Type} (s : St) : List Nat → (Nat → Option (List CV)) → ((Nat → Option (List CV)) → Option R) → Option R
  | [], f, K => K f
  | b :: r, f, K => match s.bx b with
    | some cs => forceCs cs fun cs' => keepB s r (upd f b (some cs')) K
    | none => keepB s r f K
def keep {R : Type} (h : Option (List Nat × List Nat)) (s : St) (K : St → Option R) : Option R :=
  match h with
  | none => K s
  | some (ts, bs) => keepT s ts (fun _ => .one false [.u]) fun tm => keepB s bs (fun _ => none) fun bx => K ⟨tm, bx⟩
/-! ### A region that draws its order: which operations may change places -/
inductive Kind where
  | pure | load | call | mem | alloc | app
  deriving DecidableEq
def kindOf : Op → Kind
  | .load _ _ => .load
  | .store _ _ _ => .mem
  | .alloc _ => .alloc
  | .box _ _ => .alloc
  | .call c => match c.callee with
    | .builtin b => match b with
      | .append => .app
      | _ => .pure
    | .value _ => .call
    | _ => .alloc
  | _ => .pure
def looks (ops : Array Oper) (o : Oper) : List Tmp := o.looksAt ops
/-- May two operations change places (the call may then touch no box)? -/
def free (ops : Array Oper) (a b : Oper) : Bool :=
  a.apart ops b &&
  match kindOf a.op, kindOf b.op with
  | .alloc, _ => false
  | _, .alloc => false
  | .mem, _ => false
  | _, .mem => false
  | .app, .pure => b.dst.isSome
  | .app, .load => b.dst.isSome
  | .pure, .app => a.dst.isSome
  | .load, .app => a.dst.isSome
  | .app, _ => false
  | _, .app => false
  | _, _ => true
/-- A store and what looks at no box. -/
def freeM (ops : Array Oper) (a b : Oper) : Bool :=
  a.apart ops b &&
  match kindOf a.op, kindOf b.op with
  | .mem, .pure => true
  | .pure, .mem => true
  | .mem, .call => true
  | .call, .mem => true
  | _, _ => false
def before1 (ops : Array Oper) (i : Nat) : List Nat :=
  match ops[i]? with
  | some o => o.after.toList.filterMap fun e => if Region.binds .any e then some e.on else none
  | none => []
/-- The operations that must stand ahead of each. -/
def aheads (ops : Array Oper) : Nat → List (List Nat)
  | 0 => []
  | n + 1 => let l := aheads ops n; l ++ [((before1 ops n).foldl (fun acc j => acc ++ (j :: l.getD j [])) [])]
def allPairs (ops : Array Oper) (ah : List (List Nat)) : Nat → Bool
  | 0 => true
  | n + 1 => allPairs ops ah n && (before1 ops n).all (fun j => Nat.blt j n) && (List.range n).all fun i =>
      (ah.getD n []).contains i || (match ops[i]?, ops[n]? with | some a, some b => free ops a b || freeM ops a b | _, _ => false)
/-- Is there an operation that a call is not ordered with? -/
def quietAt (ops : Array Oper) (ah : List (List Nat)) (i : Nat) : Bool :=
  (List.range ops.size).any fun j => !Nat.beq i j && !(ah.getD i []).contains j && !(ah.getD j []).contains i && (match ops[j]? with | some o => (match kindOf o.op with | .pure => false | _ => true) | none => false)
def qAt (ops : Array Oper) (ah : List (List Nat)) (i : Nat) : Option (List Nat) :=
  match ops[i]? with
  | some o => match kindOf o.op with
    | .app => some (ops.toList.zipIdx.filterMap fun p => bif Nat.beq p.2 i || (ah.getD i []).contains p.2 || (ah.getD p.2 []).contains i then none else p.1.dst)
    | _ => bif quietAt ops ah i then some [] else none
  | none => none
def regionF {R : Type} (X : Ctx) (ops : Array Oper) (draw : Bool) (s : St) (K : St → Option R) : Option R :=
  bif draw then
    let ah := aheads ops ops.size
    bif allPairs ops ah ops.size then stepsR X ops ((ops.toList.zipIdx).map fun p => (qAt ops ah p.2, p.1)) s K else none
  else bif ops.toList.any (isBoxed X) then stepsM X ops ops.toList s K else stepsR X ops (ops.toList.map fun o => (none, o)) s K
/-! ### Code -/
inductive AX where
  | norm
  | exit (id : Nat)
  | ret
def loopN {R : Type} (body : St → (AX → St → Option R) → Option R) : Nat → St → (AX → St → Option R) → Option R
  | 0, _, _ => none
  | n + 1, s, K => body s fun e s' => match e with
    | .norm => loopN body n s' K
    | e => K e s'
def notDefer : Op → Bool
  | .defer _ => false
  | _ => true
/-- Code that a round may hold. -/
def plainC : Code → Bool
  | .skip => true
  | .seq a b => plainC a && plainC b
  | .cond _ x y => plainC x && plainC y
  | .block _ b => plainC b
  | .loop b => plainC b
  | .region _ ops _ => ops.toList.all fun o => notDefer o.op
  | .exit _ => true
  | .ret => true
  | _ => false
def renB (b : Nat) : Option Nat := bif Nat.blt b passed then some (2 * passed + b) else bif Nat.blt b (2 * passed) then some b else none
def renCaps : List (Nat × Nat) → Option (List (Nat × Nat))
  | [] => some []
  | c :: r => match renB c.1, renCaps r with
    | some b, some l => some ((b, c.2) :: l)
    | _, _ => none
/-- Boxes under their other names; 'k': the marks are kept. -/
def CV.ren (k : Bool) : CV → CV
  | .own t x => bif k then .own t x else .d x
  | .fn f caps => match renCaps caps with
    | some l => .fn f l
    | none => .u
  | .ptr b o r => match renB b with
    | some b' => .ptr b' o r
    | none => .u
  | .yl _ => .u
  | c => c
def renBx (bx : BX) (b : Nat) : Option (List CV) :=
  bif Nat.blt b passed then none else bif Nat.blt b (2 * passed) then (bx b).map (·.map (CV.ren true)) else
    bif Nat.blt b (3 * passed) then (bx (b - 2 * passed)).map (·.map (CV.ren true)) else none
def renTm (tm : TM) (t : Nat) : AV := (tm t).map (CV.ren false)
def putPs (tm : TM) : List Nat → List AV → TM
  | p :: ps, v :: vs => putPs (upd tm p v) ps vs
  | _, _ => tm
def AV.ofD (p : Bool × List DV) : AV := .one p.1 (p.2.map .d)
/-- Round by round. -/
def roundsF {R : Type} (assign body : St → (AX → St → Option R) → Option R) (ps : List Nat) (tm : TM) : List (List (Bool × List DV)) → BX → (AX → St → Option R) → Option R
  | [], bx, K => K .norm ⟨tm, bx⟩
  | x :: xs, bx, K => bif Nat.beq x.length ps.length then assign ⟨putPs tm ps (x.map AV.ofD), bx⟩ fun e s1 => match e with
      | .norm => body s1 fun e s2 => match e with
        | .norm => roundsF assign body ps tm xs s2.bx K
        | e => K e ⟨tm, s2.bx⟩
      | _ => none
    else none
def code {R : Type} (X : Ctx) (fuel : Nat) (hint : Nat → Option (List Nat × List Nat)) : Code → St → (AX → St → Option R) → Option R
  | .skip, s, K => K .norm s
  | .seq a b, s, K => code X fuel hint a s fun e s' => match e with
    | .norm => code X fuel hint b s' K
    | e => K e s'
  | .cond c x y, s, K => refC c s fun s1 => match evB s1 c with
    | some b => bif b then code X fuel hint x s1 K else code X fuel hint y s1 K
    | none => none
  | .block id b, s, K => code X fuel hint b s fun e s' => match e with
    | .exit i => bif Nat.beq i id then K .norm s' else K (.exit i) s'
    | e => K e s'
  | .loop b, s, K => loopN (code X fuel hint b) fuel s K
  | .region id ops draw, s, K => prepF X (X.prep id) s fun s0 => regionF X ops draw s0 fun s' => keep (hint id) s' fun s'' => K .norm s''
  | .exit id, s, K => K (.exit id) s
  | .ret, s, K => K .ret s
  | .rangeFunc g ps assign body, s, K => bif plainC assign && plainC body && ps.toList.all (fun p => Nat.blt p X.n) then
      match evC s g with
      | some (.clo f caps) => match X.iter f caps with
        | some xs => roundsF (code X fuel hint assign) (code X fuel hint body) ps.toList (renTm s.tm) xs (renBx s.bx) K
        | none => none
      | _ => none
    else none
  | _, _, _ => none
/-! ### Functions -/
def startT : Nat → List AV → Nat → AV
  | i, v :: r => upd (startT (i + 1) r) i v
  | _, [] => fun _ => .one false [.u]
def startB : Nat → List (List CV) → Nat → Option (List CV)
  | i, b :: r => upd (startB (i + 1) r) (passed + i) (some b)
  | _, [] => fun _ => none
/-- The marks of a result: all different, numbered anew; else none. -/
def marksOf : List CV → List Nat
  | [] => []
  | .own t _ :: r => t :: marksOf r
  | _ :: r => marksOf r
def renum (m : List Nat) (keepM : Bool) : CV → Option CV
  | .d x => some (.d x)
  | .own t x => some (bif keepM then .own (m.idxOf t) x else .d x)
  | .clo f rows => some (.clo f rows)
  | _ => none
def renumAll (m : List Nat) (keepM : Bool) : List CV → Option (List CV)
  | [] => some []
  | c :: r => match renum m keepM c, renumAll m keepM r with
    | some x, some l => some (x :: l)
    | _, _ => none
def nodupB : List Nat → Bool
  | [] => true
  | a :: r => !r.elem a && nodupB r
def resOne (X : Ctx) (s : St) : ResultVar → Option (Bool × List CV)
  | .tmp t => (s.tm t).cells
  | .cell t T => match X.ty T, s.tm t with
    | some i, .one false [.ptr b o none] => match s.bx b with
      | some cells => bif i.agg then (bif Nat.ble (o + i.size) cells.length then some (true, (cells.drop o).take i.size) else none) else
          match cells[o]? with
          | some c => some (false, [c])
          | none => none
      | none => none
    | _, _ => none
def resAll (X : Ctx) (s : St) : List ResultVar → Option (List (Bool × List CV))
  | [] => some []
  | r :: q => match resOne X s r, resAll X s q with
    | some a, some l => some (a :: l)
    | _, _ => none
def renumP (m : List Nat) (keepM : Bool) : List (Bool × List CV) → Option (List (Bool × List CV))
  | [] => some []
  | p :: r => match renumAll m keepM p.2, renumP m keepM r with
    | some a, some l => some ((p.1, a) :: l)
    | _, _ => none
def outsOf (s : St) : Nat → Nat → Option (List (List CV))
  | _, 0 => some []
  | i, n + 1 => match s.bx (passed + i) with
    | some cs => match stripAll cs, outsOf s (i + 1) n with
      | some c, some l => some (c :: l)
      | _, _ => none
    | none => none
/-- The cells that a closure bears. -/
def clos (s : St) : List (Nat × Nat) → Option (List (List DV))
  | [] => some []
  | c :: r => bif Nat.beq c.2 0 && Nat.blt c.1 passed then
      match s.bx c.1 with
      | some cs => match allD cs, clos s r with
        | some row, some l => some (row :: l)
        | _, _ => none
      | none => none
    else none
def closeC (s : St) : CV → CV
  | .fn f caps => match clos s caps with
    | some rows => .clo f rows
    | none => .fn f caps
  | c => c
def finish (X : Ctx) (fn : Func) (nb : Nat) (s : St) : Option Res :=
  match resAll X s fn.results.toList with
  | some vs0 =>
    let vs := vs0.map fun p => (p.1, p.2.map (closeC s))
    let m := marksOf (vs.flatMap (·.2))
    match renumP m (nodupB m) vs, outsOf s 0 nb with
    | some [(a, cs)], some outs => some (.one a cs, outs)
    | some vs, some outs => some (.tup vs, outs)
    | _, _ => none
  | none => none
structure Tab where
  fn : FuncId → Option Func
  ty : TypeId → Option TI
  hint : FuncId → Nat → Option (List Nat × List Nat)
  ext : FuncId → Option (List AV → List (List CV) → CallK)
  iter : FuncId → List (List DV) → Option (List (List (Bool × List DV)))
  fuel : Nat
  mu : FuncId → Nat → Bool
  prep : FuncId → Nat → List Prep
  pre : FuncId → List AV → List (List CV) → Bool
/-- A function's own text, whatever is promised of it. -/
def evalB (T : Tab) (call : FuncId → List AV → List (List CV) → CallK) (f : FuncId) (as : List AV) (bs : List (List CV)) : Option Res :=
  match T.fn f with
  | some fn => match fn.body with
    | some c => bif Nat.ble as.length fn.ntmps && Nat.blt bs.length passed then
        code ⟨T.ty, call, fn.ntmps, T.iter, T.mu f, bif plainC c then T.prep f else fun _ => [], T.pre⟩ T.fuel (T.hint f) c ⟨startT 0 as, startB 0 bs⟩ fun e s => match e with
          | .exit _ => none
          | _ => finish ⟨T.ty, call, fn.ntmps, T.iter, T.mu f, bif plainC c then T.prep f else fun _ => [], T.pre⟩ fn bs.length s
      else none
    | none => none
  | none => none
def evalK (T : Tab) : Nat → FuncId → List AV → List (List CV) → CallK
  | 0, _, _, _ => CallK.of none
  | n + 1, f, as, bs => match T.ext f with
    | some g => g as bs
    | none => CallK.of (evalB T (evalK T n) f as bs)
def eval (T : Tab) (n : Nat) (f : FuncId) (as : List AV) (bs : List (List CV)) : Option Res := (evalK T n f as bs).go some
end Go.Proofs.Ythmdefgepnkgiaa.Eng
