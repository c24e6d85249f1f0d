-- a text of this claim
import Derived.Test.YtenchfkljmodkaaDoorProg
import Derived.Below
import Derived.Deep.Draws
import Derived.Deep.AppendLies
import Derived.Maps.AppendAt
import Derived.OwnWalk
import Derived.Laws.BytesArg
import Derived.Laws.MakeOwn
import Derived.Laws.OwnMore
import Derived.Deep.OwnRows
import Derived.Tactics
import Derived.Lib.ConvBytes
import Derived.Laws.Slices
import Derived.WalkKit
import Derived.KernelRfl
import Derived.RowKit3
import Derived.Deep.LoopGhost
import Derived.Deep.QuietTactic
import Derived.BigQuiet
import Derived.WideLaws
import Derived.Deep.DeepCutAuto
import Derived.Deep.CutBlock
import Derived.Deep.RegionHeld3
import Derived.Laws.Rows
import Derived.Lib.AppendStr
import Derived.ArgAppend
import Derived.Laws.IdiomCopy
import Derived.OrdersHeld
import Derived.Laws.BitsLemmas
import Derived.RowKit
import Derived.Test.YtenchfkljmodkaaDoorShelf
import Derived.Test.YtenchfkljmodkaaDoorWWords
import Derived.Test.YtenchfkljmodkaaDoorWLast
import Derived.Test.YtenchfkljmodkaaDoorWTab
import Derived.Test.YtenchfkljmodkaaDoorWFour
import Derived.Test.YtenchfkljmodkaaDoorWQPut
import Derived.Test.YtenchfkljmodkaaDoorWApart
import Derived.Test.YtenchfkljmodkaaDoorWArr
import Derived.Test.YtenchfkljmodkaaDoorWZeros
import Derived.Test.YtenchfkljmodkaaDoorWFoot
import Derived.Test.YtenchfkljmodkaaDoorWKept
import Derived.Test.YtenchfkljmodkaaDoorWShare
import Derived.Test.YtenchfkljmodkaaDoorWN
import Derived.Test.YtenchfkljmodkaaDoorWFootNe
import Derived.Test.YtenchfkljmodkaaDoorWAt
import Derived.Test.YtenchfkljmodkaaDoorWEqStruct
import Derived.Test.YtenchfkljmodkaaDoorWRepsOne
import Derived.Test.YtenchfkljmodkaaDoorWInv
import Derived.Test.YtenchfkljmodkaaDoorWInvWords
import Derived.Test.YtenchfkljmodkaaDoorWGuard
import Derived.Test.YtenchfkljmodkaaDoorWNEv
import Derived.Test.YtenchfkljmodkaaDoorWMore
namespace Go.Proofs.YtenchfkljmodkaaDoor.A
open Go.RowKit Go.Proofs.YtenchfkljmodkaaDoorW.PrintWords Go.Proofs.YtenchfkljmodkaaDoorW.PrintLast Go.Proofs.YtenchfkljmodkaaDoorW.PrintMore
attribute [local go_sem] max2_int min2_int max_two min_two max_three min_three max_four min_four   -- for this text's walks alone
set_option linter.unusedVariables false
set_option linter.unusedSimpArgs false

theorem zm {p : Prop} (h : p) : Aside0 p := ⟨h⟩
theorem zb1 {w W : World} (h : Below w.heap.size w W) (o : Obj) : Below w.heap.size w (W.alloc o) := below_alloc h o
theorem zb2 {B : Nat} {w W : World} (h : Below B w W) (n : Nat) : Below B w (W.drewN n) := pw_below_drewN h n
theorem zb3 {base : Nat} {w W : World} (h : Below base w W) : Below base w W.drew := below_drew1 h
section
variable {α : Type} {d : Kd α} {e base n : Nat} {ok : Nat → Prop} {v : Value} {xs : List α} {w : World} {A : Option Addr}
theorem zr1 (h : Kd.R d e w base ok v xs) (o : Obj) : Kd.R d e (w.alloc o) base ok v xs := Kd.R_alloc h o
theorem zr2 (h : Kd.R d e w base ok v xs) (m : Nat) : Kd.R d e (w.drewN m) base ok v xs := Kd.R_drewN h m
theorem zr3 (h : Kd.R d e w base ok v xs) : Kd.R d e w.drew base ok v xs := Kd.R_drew h
theorem zc1 (h : Kd.C d w A n xs) (o : Obj) : Kd.C d (w.alloc o) A n xs := Kd.C_alloc h o
theorem zc2 (h : Kd.C d w A n xs) (m : Nat) : Kd.C d (w.drewN m) A n xs := Kd.C_drewN h m
theorem zc3 (h : Kd.C d w A n xs) : Kd.C d w.drew A n xs := Kd.C_drew h
end
theorem zl1 {α β : Type} (f : α → β) (l : List α) : l.toArray.map f = (l.map f).toArray := List.map_toArray ..
theorem zl2 {α β : Type} (f : α → β) (a : α) (l : List α) : (a :: l).map f = f a :: l.map f := List.map_cons ..
theorem zl3 {α β : Type} (f : α → β) : ([] : List α).map f = [] := List.map_nil ..
section
variable {e c cc g : Nat} {pre post : List Int} {W : World} {base : Nat} {ok ok' : Nat → Prop} {v : Value} {xs : List Int}
end
theorem one_byte {a : ByteArray} (h : a.size = 1) : ∃ c, a = ⟨#[c]⟩ := by
  obtain ⟨⟨l⟩⟩ := a
  match l, h with
  | [c], _ => exact ⟨c, rfl⟩
theorem gate_value {P : Program} {ops : Array Oper} {rest : List Oper} {o : Oper} {a : Act} {Q : Exit → Act → World → Prop} {W : World} {x : Operand} {xs_ : Array Operand} {ts : Array TypeId} (_ho : o.op = .call { callee := .value x, args := xs_, argTypes := ts }) (h : wpList P ops Q (o :: rest) a W) : wpList P ops Q (o :: rest) a W := h
theorem goesV_ {P : Program} {ops : Array Oper} {Q : Exit → Act → World → Prop} {rest : List Oper} {oi : Oper} {a : Act} {w : World} (N : Option Tmp) (hd : oi.dst = N) (hg : oi.guard = none) {f : FuncId} {fn : Func} {x : Operand} {xs_ : Array Operand} {ts : Array TypeId} (hf : P.funcs[f]? = some fn) (hname : (fn.name == "runtime.NumGoroutine") = false) (hb : fn.body.isSome = true) (args : Array Value)
    (hop : oi.op = .call { callee := .value x, args := xs_, argTypes := ts }) (hx : a.eval x = .func (.func f) #[] #[]) (hargs : xs_.map a.eval = args)
    (h : Calls P f args w fun e w' => ∃ v, e = .returned v ∧ wpList P ops Q rest (a.put N v) w') : wpList P ops Q (oi :: rest) a w := by
  refine wpList_plain hg fun K hK => ?_
  have he := enters_ hf hname hb args w
  have hrun : (execOp a.eval oi).run P w = .ok (.enter f args) w := by
    unfold execOp
    simp [hop, resolve, Deferred.ofValue, invoke, hargs, hx, he]
  unfold Oper.wp
  rw [hrun, Oper.upon_enter]
  refine h.mono fun e w'' hh => ?_
  obtain ⟨v, rfl, hk⟩ := hh
  subst hd
  exact hK _ _ hk



def errW : Option Int → Value
  | none => .nilIface
  | some c => .iface 0 (.int .i64 c)
theorem errW_none : errW none = .nilIface := rfl
theorem errW_some (c : Int) : errW (some c) = .iface 0 (.int .i64 c) := rfl

theorem info9 : (Tryd.prog.info? 9).map (fun i => (i.zero, i.size, i.bytes)) = some (some (.string ⟨#[]⟩), 1, 16) := by kernel_rfl
-- the values' own types

end Go.Proofs.YtenchfkljmodkaaDoor.A
