/- Words for functions that are told by functions: the loops of a text, found by their names. Conditions: none. -/
import Derived.Test.YthmdefgepnkgiaaEG
namespace Go.Proofs.Ythmdefgepnkgiaa.Eng
open Go
def lookB : List (Nat × Code) → Nat → Code
  | [], _ => .skip
  | p :: r, i => bif Nat.beq i p.1 then p.2 else lookB r i
def loopAt (c : Code) (i : Nat) : Code := match lookB (blocksOf c) i with | .loop b => b | _ => .skip
theorem lookB_mem : ∀ {l : List (Nat × Code)} {p : Nat × Code}, nodupB (l.map (·.1)) = true → p ∈ l → lookB l p.1 = p.2
  | q :: r, p, hn, hp => by
    simp only [List.map_cons, nodupB, Bool.and_eq_true, Bool.not_eq_true', List.elem_eq_mem, decide_eq_false_iff_not] at hn
    simp only [lookB]
    cases hb : Nat.beq p.1 q.1
    · rcases List.mem_cons.1 hp with rfl | hp
      · exact absurd rfl (beq_false hb)
      · exact lookB_mem hn.2 hp
    · rcases List.mem_cons.1 hp with rfl | hp
      · rfl
      · exact absurd (List.mem_map_of_mem (f := (·.1)) hp) (by rw [beq_true hb]; exact hn.1)
theorem lookB_in : ∀ {l : List (Nat × Code)} {i : Nat} {b : Code}, lookB l i = .loop b → (i, .loop b) ∈ l
  | [], _, _, h => by cases h
  | q :: r, i, b, h => by
    simp only [lookB] at h
    cases hb : Nat.beq i q.1
    · rw [hb] at h; exact List.mem_cons_of_mem _ (lookB_in h)
    · rw [hb] at h
      obtain rfl := beq_true hb
      have h : q.2 = .loop b := h
      rw [← h]; exact List.mem_cons_self
theorem blocks_sub {c : Code} {i : Nat} {b : Code} (h : (i, b) ∈ blocksOf c) (q : Nat × Code) (hq : q ∈ blocksOf b) : q ∈ blocksOf c := by
  induction c with
  | seq x y ihx ihy =>
    simp only [blocksOf, List.mem_append] at h ⊢
    exact h.imp ihx ihy
  | cond o x y ihx ihy =>
    simp only [blocksOf, List.mem_append] at h ⊢
    exact h.imp ihx ihy
  | block j d ih =>
    simp only [blocksOf, List.mem_cons, Prod.mk.injEq] at h ⊢
    rcases h with ⟨rfl, rfl⟩ | h
    · exact .inr hq
    · exact .inr (ih h)
  | loop d ih =>
    simp only [blocksOf] at h ⊢
    exact ih h
  | _ => simp [blocksOf] at h
abbrev Hks := List (Nat × HookS)
def findHk : Hks → Hook
  | [], _ => none
  | p :: r, i => bif Nat.beq i p.1 then some p.2 else findHk r i
structure PartAll (P : Program) (X : Ctx) (g : HookS) (c : Code) : Prop where
  all : ∀ (R : Type) (r : R), Part P X r g.go c
def HksOK (P : Program) (X : Ctx) (c : Code) (l : Hks) : Prop := ∀ p ∈ l, PartAll P X p.2 (.block p.1 (lookB (blocksOf c) p.1))
theorem HksOK.nil {P : Program} {X : Ctx} {c : Code} : HksOK P X c [] := fun _ h => by cases h
theorem HksOK.cons {P : Program} {X : Ctx} {c : Code} {l : Hks} {p : Nat × HookS} (h : PartAll P X p.2 (.block p.1 (lookB (blocksOf c) p.1))) (hl : HksOK P X c l) : HksOK P X c (p :: l) := fun q hq => by
  rcases List.mem_cons.1 hq with rfl | hq
  · exact h
  · exact hl q hq
theorem findHk_mem : ∀ {l : Hks} {i : Nat} {g : HookS}, findHk l i = some g → (i, g) ∈ l
  | [], _, _, h => by cases h
  | p :: r, i, g, h => by
    simp only [findHk] at h
    cases hb : Nat.beq i p.1
    · rw [hb] at h; exact List.mem_cons_of_mem _ (findHk_mem h)
    · rw [hb] at h
      obtain rfl := Option.some.inj h
      obtain rfl := beq_true hb
      exact List.mem_cons_self
theorem HksOK.just {P : Program} {X : Ctx} {c d : Code} {l : Hks} (h : HksOK P X c l) (hn : nodupB ((blocksOf c).map (·.1)) = true) (hs : ∀ p ∈ blocksOf d, p ∈ blocksOf c) : JustG P X (findHk l) d := fun p hp g hg R r => by
  have this := h _ (findHk_mem hg)
  rw [lookB_mem hn (hs p hp)] at this
  exact this.all R r
theorem loop_hook {P : Program} {X : Ctx} (hX : XOK P X) (hI : XI P X) (hmix : P.follows .mixedOrders = true) {fuel : Nat} {hint : Nat → Option (List Nat × List Nat)} {c : Code} {l : Hks} (hl : HksOK P X c l) (hn : nodupB ((blocksOf c).map (·.1)) = true) {i : Nat} {hin : List Nat × List Nat} {hout : AX → Option (List Nat × List Nat)}
    (hlp : (match lookB (blocksOf c) i with | .loop _ => true | _ => false) = true) {g : HookS} (hF : ∀ {R : Type} (s : St) (K : AX → St → Option R) (r : R), g.go s K = some r → ∃ m s0, Weak s s0 ∧ roundsG X fuel hint (findHk l) i hin hout (loopAt c i) m s0 K = some r) :
    PartAll P X g (.block i (lookB (blocksOf c) i)) := by
  obtain ⟨b, hb⟩ : ∃ b, lookB (blocksOf c) i = .loop b := by
    split at hlp
    · exact ⟨_, by assumption⟩
    · cases hlp
  have hla : loopAt c i = b := by unfold loopAt; rw [hb]
  rw [hla] at hF
  rw [hb]
  exact ⟨fun R r => rounds_ok hX hI hmix (hl.just (d := b) hn fun p hp => blocks_sub (lookB_in hb) p hp) fun s K e => hF s K r e⟩
noncomputable abbrev rG {R : Type} (T : Tab) (f : FuncId) (l : Hks) (i : Nat) (hin : List Nat × List Nat) (hout : AX → Option (List Nat × List Nat)) : Nat → St → (AX → St → Option R) → Option R :=
  roundsG (ctxOf T (evalK T 20) f) T.fuel (T.hint f) (findHk l) i hin hout (loopAt (bodyOf T f) i)
/-- What is kept behind a loop. -/
def houtOf (n : List Nat × List Nat) (e : List (Nat × (List Nat × List Nat))) (r : List Nat × List Nat) : AX → Option (List Nat × List Nat)
  | .norm => some n
  | .exit j => (e.find? fun p => Nat.beq p.1 j).map (·.2)
  | .ret => some r
theorem evalG_ok {P : Program} {T : Tab} (hT : TabOK P T) {f : FuncId} {l : Hks} (hl : HksOK P (ctxOf T (evalK T 20) f) (bodyOf T f) l) (hn : nodupB ((blocksOf (bodyOf T f)).map (·.1)) = true) {as : List AV} {bs : List (List CV)} {r : Res} (hp : ∀ f as bs, T.pre f as bs = true) (e : evalBH T (findHk l) (evalK T 20) f as bs = some r) : CallOK P f as bs r :=
  evalBH_ok hT (fun f as bs r hp h => eval_ok hT 20 f as bs r hp h) f (hl.just hn fun _ h => h) as bs r e
theorem ctx_ok {P : Program} {T : Tab} (hT : TabOK P T) (f : FuncId) : XOK P (ctxOf T (evalK T 20) f) ∧ XI P (ctxOf T (evalK T 20) f) := by
  unfold ctxOf
  split
  · exact ⟨⟨hT.ty, fun f as bs r hp h => eval_ok hT 20 f as bs r hp h⟩, fun f rows xs h => hT.iter f rows xs h⟩
  · exact ⟨⟨hT.ty, fun f as bs r hp h => eval_ok hT 20 f as bs r hp h⟩, fun f rows xs h => hT.iter f rows xs h⟩
/-! ### What a state holds, piece by piece -/
section
variable {R : Type} {r : R}
def g1 (v : AV) (K : CV → Option R) : Option R := match v with | .one false [c] => K c | _ => none
def gA (v : AV) (K : List CV → Option R) : Option R := match v with | .one true cs => K cs | _ => none
def gX (v : Option (List CV)) (K : List CV → Option R) : Option R := match v with | some cs => K cs | none => none
def gD (c : CV) (K : DV → Option R) : Option R := match c with | .d x => K x | _ => none
def gO (t : Nat) (c : CV) (K : DV → Option R) : Option R := match c with | .own t' x => bif Nat.beq t' t then K x else none | _ => none
def gM (c : CV) (K : Nat → DV → Option R) : Option R := match c with | .own t x => K t x | _ => none
def gP (b o : Nat) (c : CV) (K : Option R) : Option R := match c with | .ptr b' o' none => bif Nat.beq b' b && Nat.beq o' o then K else none | _ => none
def gF (f : FuncId) (c : CV) (K : Option R) : Option R := match c with | .fn f' [] => bif Nat.beq f' f then K else none | _ => none
def gU (c : CV) (K : Option R) : Option R := match c with | .u => K | _ => none
def gC (l : List CV) (K : CV → List CV → Option R) : Option R := match l with | c :: l => K c l | [] => none
def gN (l : List CV) (K : Option R) : Option R := match l with | [] => K | _ => none
def gB (b c : Bool) (K : Option R) : Option R := bif b == c then K else none
theorem g1_some {v : AV} {K : CV → Option R} (h : g1 v K = some r) : ∃ c, v = .one false [c] ∧ K c = some r := by
  unfold g1 at h; split at h
  · exact ⟨_, rfl, h⟩
  · cases h
theorem gA_some {v : AV} {K : List CV → Option R} (h : gA v K = some r) : ∃ c, v = .one true c ∧ K c = some r := by
  unfold gA at h; split at h
  · exact ⟨_, rfl, h⟩
  · cases h
theorem gX_some {v : Option (List CV)} {K : List CV → Option R} (h : gX v K = some r) : ∃ c, v = some c ∧ K c = some r := by
  unfold gX at h; split at h
  · exact ⟨_, rfl, h⟩
  · cases h
theorem gD_some {v : CV} {K : DV → Option R} (h : gD v K = some r) : ∃ c, v = .d c ∧ K c = some r := by
  unfold gD at h; split at h
  · exact ⟨_, rfl, h⟩
  · cases h
theorem gO_some {t : Nat} {v : CV} {K : DV → Option R} (h : gO t v K = some r) : ∃ c, v = .own t c ∧ K c = some r := by
  unfold gO at h; split at h
  · obtain ⟨hb, h2⟩ := b_true h
    obtain rfl := beq_true hb
    exact ⟨_, rfl, h2⟩
  · cases h
theorem gM_some {v : CV} {K : Nat → DV → Option R} (h : gM v K = some r) : ∃ t c, v = .own t c ∧ K t c = some r := by
  unfold gM at h; split at h
  · exact ⟨_, _, rfl, h⟩
  · cases h
theorem gP_some {b o : Nat} {v : CV} {K : Option R} (h : gP b o v K = some r) : v = .ptr b o none ∧ K = some r := by
  unfold gP at h; split at h
  · obtain ⟨hb, h2⟩ := b_true h
    simp only [Bool.and_eq_true] at hb
    obtain rfl := beq_true hb.1
    obtain rfl := beq_true hb.2
    exact ⟨rfl, h2⟩
  · cases h
theorem gF_some {f : FuncId} {v : CV} {K : Option R} (h : gF f v K = some r) : v = .fn f [] ∧ K = some r := by
  unfold gF at h; split at h
  · obtain ⟨hb, h2⟩ := b_true h
    obtain rfl := beq_true hb
    exact ⟨rfl, h2⟩
  · cases h
theorem gU_some {v : CV} {K : Option R} (h : gU v K = some r) : v = .u ∧ K = some r := by
  unfold gU at h; split at h
  · exact ⟨rfl, h⟩
  · cases h
theorem gC_some {v : List CV} {K : CV → List CV → Option R} (h : gC v K = some r) : ∃ c l, v = c :: l ∧ K c l = some r := by
  unfold gC at h; split at h
  · exact ⟨_, _, rfl, h⟩
  · cases h
theorem gN_some {v : List CV} {K : Option R} (h : gN v K = some r) : v = [] ∧ K = some r := by
  unfold gN at h; split at h
  · exact ⟨rfl, h⟩
  · cases h
theorem gB_some {b c : Bool} {K : Option R} (h : gB b c K = some r) : b = c ∧ K = some r := by
  unfold gB at h
  cases b <;> cases c <;> first | exact ⟨rfl, h⟩ | cases h
theorem asI_some {k : IntKind} {x : DV} {K : Int → Option R} (h : asI k x K = some r) : ∃ n, x = .int k n ∧ K n = some r := by
  unfold asI at h; split at h
  · obtain ⟨hb, h2⟩ := b_true h
    obtain rfl := of_decide_eq_true hb
    exact ⟨_, rfl, h2⟩
  · cases h
theorem asB_some {x : DV} {K : Bool → Option R} (h : asB x K = some r) : ∃ n, x = .bool n ∧ K n = some r := by
  unfold asB at h; split at h
  · exact ⟨_, rfl, h⟩
  · cases h
theorem asS_some {x : DV} {K : ByteArray → Option R} (h : asS x K = some r) : ∃ n, x = .str n ∧ K n = some r := by
  unfold asS at h; split at h
  · exact ⟨_, rfl, h⟩
  · cases h
theorem asR_some {k : IntKind} {x : DV} {K : List Int → Option R} (h : asR k x K = some r) : ∃ n, x = .ints k n ∧ K n = some r := by
  unfold asR at h; split at h
  · obtain ⟨hb, h2⟩ := b_true h
    obtain rfl := of_decide_eq_true hb
    exact ⟨_, rfl, h2⟩
  · cases h
theorem asL_some {z : Nat} {x : DV} {K : List (List DV) → Option R} (h : asL z x K = some r) : ∃ n, x = .sl z n ∧ K n = some r := by
  unfold asL at h; split at h
  · obtain ⟨hb, h2⟩ := b_true h
    obtain rfl := beq_true hb
    exact ⟨_, rfl, h2⟩
  · cases h
end
/-- A call's arguments, and the boxes handed on. -/
def gArgs (l : List AV) (K : AV → List AV → CallK) : CallK := match l with | v :: r => K v r | [] => .of none
end Go.Proofs.Ythmdefgepnkgiaa.Eng
