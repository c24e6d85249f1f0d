/- What goes on behind an operation is handed its result, and that is all. Conditions: none. -/
import Derived.Test.YthmdefgepnkgiaaE2
namespace Go.Proofs.Ythmdefgepnkgiaa.Eng
open Go
section
variable {R : Type}
theorem binI_nat (op : BinOp) (k : IntKind) (x y : Int) (K : DV → Option R) : binI op k x y K = (binI op k x y some).bind K := by
  cases op <;> simp only [binI, Bool.cond_eq_ite] <;> first | rfl | (split <;> rfl)
theorem shiftI_nat (op : BinOp) (k : IntKind) (x y : Int) (K : DV → Option R) : shiftI op k x y K = (shiftI op k x y some).bind K := by
  unfold shiftI
  cases op <;> simp only [Bool.cond_eq_ite] <;> first | rfl | (split <;> rfl)
theorem binS_nat (op : BinOp) (x y : ByteArray) (K : DV → Option R) : binS op x y K = (binS op x y some).bind K := by
  cases op <;> simp only [binS, Bool.cond_eq_ite] <;> first | rfl | (split <;> rfl)
theorem bin_nat (X : Ctx) (op : BinOp) (T : TypeId) (a b : CV) (K : DV → Option R) : bin X op T a b K = (bin X op T a b some).bind K := by
  unfold bin
  split
  · rename_i k x k' y
    simp only [Bool.cond_eq_ite]
    split
    · exact shiftI_nat _ _ _ _ K
    · split
      · exact binI_nat _ _ _ _ K
      · rfl
  · exact binS_nat _ _ _ K
  · repeat' split
    all_goals rfl
  · rfl
theorem un_nat (op : UnOp) (a : CV) (K : DV → Option R) : un op a K = (un op a some).bind K := by
  unfold un
  split <;> rfl
theorem conv_nat (X : Ctx) (S T : TypeId) (a : CV) (t : Nat) (K : CV → Option R) : conv X S T a t K = (conv X S T a t some).bind K := by
  unfold conv
  simp only [Bool.cond_eq_ite]
  repeat' split
  all_goals rfl
theorem nth_nat {α : Type} (l : List α) (i : Int) (K : α → Option R) : nth l i K = (nth l i some).bind K := by
  unfold nth
  simp only [Bool.cond_eq_ite]
  repeat' split
  all_goals rfl
theorem cutI_nat {α : Type} (l : List α) (lo hi : Option Int) (K : List α → Option R) : cutI l lo hi K = (cutI l lo hi some).bind K := by
  unfold cutI
  simp only [Bool.cond_eq_ite]
  repeat' split
  all_goals rfl
theorem cutS_nat (l : ByteArray) (lo hi : Option Int) (K : ByteArray → Option R) : cutS l lo hi K = (cutS l lo hi some).bind K := by
  unfold cutS
  simp only [Bool.cond_eq_ite]
  repeat' split
  all_goals rfl
theorem lenF_nat (X : Ctx) (T : TypeId) (c : CV) (K : Int → Option R) : lenF X T c K = (lenF X T c some).bind K := by
  unfold lenF
  simp only [Bool.cond_eq_ite]
  repeat' split
  all_goals rfl
theorem loadF_nat (bx : Nat → Option (List CV)) (i : TI) (p : CV) (K : AV → Option R) : loadF bx i p K = (loadF bx i p some).bind K := by
  unfold loadF
  simp only [Bool.cond_eq_ite]
  split
  · repeat' split
    all_goals rfl
  · split
    · split
      · rw [typedF_nat, typedF_nat _ _ (fun cs => some (AV.one true cs)), Option.bind_assoc]; rfl
      · rfl
    · split
      · rw [typedF_nat, typedF_nat _ _ (fun cs => some (AV.one false cs)), Option.bind_assoc]; rfl
      · rfl
  · rfl
theorem storeF_nat (s : St) (i : TI) (p : CV) (cs : List CV) (K : St → Option R) : storeF s i p cs K = (storeF s i p cs some).bind K := by
  unfold storeF
  simp only [Bool.cond_eq_ite]
  repeat' split
  all_goals rfl
theorem makeF_nat (X : Ctx) (T : TypeId) (n c : Int) (K : DV → Option R) : makeF X T n c K = (makeF X T n c some).bind K := by
  unfold makeF
  simp only [Bool.cond_eq_ite]
  repeat' split
  all_goals rfl
theorem fieldF_nat {α : Type} (X : Ctx) (T : TypeId) (f : Nat) (k : Field → TI → Option α) (K : Field → TI → Option R) (J : α → Option R) (h : ∀ a b, K a b = (k a b).bind J) : fieldF X T f K = (fieldF X T f k).bind J := by
  unfold fieldF
  repeat' split
  all_goals first | rfl | exact h _ _
theorem ixAddrF_nat (X : Ctx) (T : TypeId) (c : CV) (n : Int) (K : CV → Option R) : ixAddrF X T c n K = (ixAddrF X T c n some).bind K := by
  unfold ixAddrF
  simp only [Bool.cond_eq_ite, nth]
  repeat' split
  all_goals rfl
theorem map_nat {α β : Type} (F : ∀ {R : Type}, (α → Option R) → Option R) (hF : ∀ {R : Type} (K : α → Option R), F K = (F some).bind K) (f : α → β) (K : β → Option R) : F (fun x => K (f x)) = (F (fun x => some (f x))).bind K := by
  rw [hF, hF (fun x => some (f x)), Option.bind_assoc]
  rfl
theorem map2_nat {α β γ : Type} (F : ∀ {R : Type}, (α → β → Option R) → Option R) (hF : ∀ {R : Type} (K : α → β → Option R), F K = (F (fun a b => some (a, b))).bind fun p => K p.1 p.2) (f : α → β → γ) (K : γ → Option R) : F (fun a b => K (f a b)) = (F (fun a b => some (f a b))).bind K := by
  rw [hF, hF (fun a b => some (f a b)), Option.bind_assoc]
  rfl
theorem cutF_nat (X : Ctx) (T : TypeId) (c : CV) (lo hi : Option Int) (K : DV → Option R) : cutF X T c lo hi K = (cutF X T c lo hi some).bind K := by
  unfold cutF
  simp only [Bool.cond_eq_ite]
  repeat' split
  all_goals first
    | rfl
    | exact map_nat (fun K => cutI _ lo hi K) (fun K => cutI_nat _ lo hi K) (fun r => DV.ints _ r) K
    | exact map_nat (fun K => cutI _ lo hi K) (fun K => cutI_nat _ lo hi K) (fun r => DV.sl _ r) K
    | exact map_nat (fun K => cutS _ lo hi K) (fun K => cutS_nat _ lo hi K) (fun r => DV.str r) K
theorem cutP_nat (X : Ctx) (T : TypeId) (b o len : Nat) (cap : Option Nat) (lo hi : Option Int) (K : CV → Option R) : cutP X T b o len cap lo hi K = (cutP X T b o len cap lo hi some).bind K := by
  unfold cutP
  simp only [Bool.cond_eq_ite]
  repeat' split
  all_goals rfl
theorem cutM_nat (X : Ctx) (T : TypeId) (c : CV) (lo hi : Option Int) (m : Int) (K : DV → Option R) : cutM X T c lo hi m K = (cutM X T c lo hi m some).bind K := by
  unfold cutM
  split
  · rename_i x h _
    cases (Nat.ble 1 x.sz && leI h m && leI m x.count)
    · rfl
    · exact cutF_nat X T c lo (some h) K
  · rfl
theorem eqC_nat {S : Type} (t : TypeDesc) (c d : CV) (K : Bool → Option S) : eqC t c d K = (eqC t c d some).bind K := by
  unfold eqC
  simp only [Bool.cond_eq_ite]
  repeat' split
  all_goals rfl
theorem eqCs_nat : ∀ {S : Type} (ts : List TypeDesc) (cs ds : List CV) (K : Bool → Option S), eqCs ts cs ds K = (eqCs ts cs ds some).bind K
  | _, [], [], [], _ => rfl
  | _, t :: ts, c :: cs, d :: ds, K => by
    simp only [eqCs]
    rw [eqC_nat, eqC_nat t c d (fun b => eqCs ts cs ds fun b' => some (b && b')), Option.bind_assoc]
    congr 1; funext b
    rw [eqCs_nat ts cs ds (fun b' => K (b && b')), eqCs_nat ts cs ds (fun b' => some (b && b')), Option.bind_assoc]
    rfl
  | _, [], _ :: _, _, _ => by simp [eqCs]
  | _, [], [], _ :: _, _ => by simp [eqCs]
  | _, _ :: _, [], _, _ => by simp [eqCs]
  | _, _ :: _, _ :: _, [], _ => by simp [eqCs]
theorem eqAgg_nat (X : Ctx) (op : BinOp) (T : TypeId) (cs ds : List CV) (K : DV → Option R) : eqAgg X op T cs ds K = (eqAgg X op T cs ds some).bind K := by
  unfold eqAgg
  split
  · split
    · split
      · exact map_nat (fun K => eqCs _ cs ds K) (fun K => eqCs_nat _ cs ds K) (fun b => DV.bool b) K
      · exact map_nat (fun K => eqCs _ cs ds K) (fun K => eqCs_nat _ cs ds K) (fun b => DV.bool (!b)) K
      · rfl
    · rfl
  · rfl
theorem valF_nat (X : Ctx) (o : Oper) (s : St) (K : AV → Option R) : valF X o s K = (valF X o s some).bind K := by
  unfold valF
  split
  case h_8 op T x y U _ =>
    split
    · split
      · exact map_nat (fun K => eqAgg X op T _ _ K) (fun K => eqAgg_nat X op T _ _ K) (fun r => AV.c (.d r)) K
      · rfl
    · split
      · exact map_nat (fun K => bin X op T _ _ K) (fun K => bin_nat X op T _ _ K) (fun r => AV.c (.d r)) K
      · rfl
  case h_9 op T x _ =>
    split
    · exact map_nat (fun K => un op _ K) (fun K => un_nat op _ K) (fun r => AV.c (.d r)) K
    · rfl
  case h_10 S T x _ =>
    split
    · exact map_nat (fun K => conv X S T _ _ K) (fun K => conv_nat X S T _ _ K) (fun r => AV.c r) K
    · rfl
  case h_12 T n c _ =>
    split
    · exact map_nat (fun K => makeF X T _ _ K) (fun K => makeF_nat X T _ _ K) (fun r => AV.c (.own _ r)) K
    · rfl
  case h_13 T x lo hi mx _ =>
    split
    · split
      · split
        · exact map_nat (fun K => cutP X T _ _ _ _ _ _ K) (fun K => cutP_nat X T _ _ _ _ _ _ K) (fun r => AV.c r) K
        · exact map_nat (fun K => cutF X T _ _ _ K) (fun K => cutF_nat X T _ _ _ K) (fun r => AV.c (.d r)) K
      · rfl
    · split
      · exact map_nat (fun K => cutM X T _ _ _ _ K) (fun K => cutM_nat X T _ _ _ _ K) (fun r => AV.c (.d r)) K
      · rfl
  case h_6 T p _ =>
    split
    · exact loadF_nat _ _ _ K
    · rfl
  case h_14 T x f _ =>
    split
    · refine fieldF_nat X T f _ _ K fun a b => ?_
      simp only [Bool.cond_eq_ite]; split <;> rfl
    · refine fieldF_nat X T f _ _ K fun a b => ?_
      simp only [Bool.cond_eq_ite]; split
      · split <;> rfl
      · rfl
    · rfl
  case h_15 T x f _ =>
    split
    · refine fieldF_nat X T f _ _ K fun a b => ?_
      simp only [Bool.cond_eq_ite]; repeat' split
      all_goals rfl
    · rfl
  case h_16 T x ix _ =>
    split
    · exact map_nat (fun K => ixAddrF X T _ _ K) (fun K => ixAddrF_nat X T _ _ K) (fun r => AV.c r) K
    · rfl
  all_goals
    try simp only [Bool.cond_eq_ite, lenF, nth]
    repeat' split
    all_goals rfl
theorem callF_nat (X : Ctx) (q : Option (List Nat)) (s : St) (d : Nat) (f : CV) (args : List AV) (K : AV → (Nat → Option (List CV)) → Option R) :
    callF X q s d f args K = (callF X q s d f args (fun a b => some (a, b))).bind fun p => K p.1 p.2 := by
  unfold callF
  simp only [Bool.cond_eq_ite]
  repeat' split
  all_goals first
    | rfl
    | (rw [CallK.nat, CallK.nat _ (fun ro => some (AV.map (adC d) ro.1, _)), Option.bind_assoc]; rfl)
theorem appendF_nat (X : Ctx) (T : TypeId) (x y : AV) (K : Nat → DV → Option R) : appendF X T x y K = (appendF X T x y (fun a b => some (a, b))).bind fun p => K p.1 p.2 := by
  unfold appendF
  simp only [Bool.cond_eq_ite]
  repeat' split
  all_goals rfl
theorem app_nat (X : Ctx) (q : Option (List Nat)) (T : TypeId) (x y : AV) (s : St) (d : Option Nat) (K : St → Option R) :
    appendF X T x y (fun t z => if apartQ q t = true then K ((s.map (CV.unfl t)).put d (.c (.own t z))) else none) = (appendF X T x y (fun t z => if apartQ q t = true then some ((s.map (CV.unfl t)).put d (.c (.own t z))) else none)).bind K := by
  rw [appendF_nat, appendF_nat (K := fun t z => if apartQ q t = true then some ((s.map (CV.unfl t)).put d (.c (.own t z))) else none), Option.bind_assoc]
  congr 1
  funext p
  split <;> rfl
theorem exec_nat (X : Ctx) (q : Option (List Nat)) (o : Oper) (s : St) (K : St → Option R) : exec X q o s K = (exec X q o s some).bind K := by
  have hv : valF X o s (fun v => K (s.put o.dst v)) = (valF X o s (fun v => some (s.put o.dst v))).bind K :=
    map_nat (fun K => valF X o s K) (fun K => valF_nat X o s K) _ K
  unfold exec
  split
  case h_3 T p x _ =>
    simp only [Bool.cond_eq_ite]
    repeat' split
    all_goals first | rfl | exact storeF_nat _ _ _ _ K
  case h_4 c _ =>
    split
    · split
      · exact map2_nat (fun K => callF X q s _ _ _ K) (fun K => callF_nat X q s _ _ _ K) (fun v bx => St.put ⟨s.tm, bx⟩ o.dst v) K
      · rfl
    · split
      · simp only [Bool.cond_eq_ite]
        repeat' split
        all_goals first | rfl | exact app_nat X q _ _ _ s o.dst K
      · exact hv
    · rfl
  case h_5 => exact hv
  all_goals
    simp only [Bool.cond_eq_ite]
    repeat' split
    all_goals rfl
theorem told_nat (ops : Array Oper) (s : St) (j : Nat) (want : Bool) (K : Bool → Option R) : told ops s j want K = (told ops s j want some).bind K := by
  unfold told
  repeat' split
  all_goals rfl
theorem step1_nat (X : Ctx) (ops : Array Oper) (q : Option (List Nat)) (o : Oper) (s : St) (K : St → Option R) : step1 X ops q o s K = (step1 X ops q o s some).bind K := by
  unfold step1
  cases dstOk X.n o.dst
  · rfl
  · simp only [cond_true]
    split
    · exact exec_nat X q o s K
    · rename_i j want _
      rw [told_nat, told_nat (K := fun b => bif b then exec X q o s some else some (s.put o.dst (.one false [.un]))), Option.bind_assoc]
      congr 1
      funext b
      cases b
      · rfl
      · exact exec_nat X q o s K
theorem refT_eq (t : Nat) (s : St) (K : St → Option R) : refT t s K = K s := by
  unfold refT
  split
  · rename_i b hb
    have key : ∀ c, s.tm t = .bool c → (⟨upd s.tm t (.bool c), s.bx⟩ : St) = s := by
      intro c hc
      have : upd s.tm t (.bool c) = s.tm := by
        funext u
        unfold upd
        cases h : Nat.beq u t
        · rfl
        · have := Nat.eq_of_beq_eq_true h
          subst this
          exact hc.symm
      rw [this]
    cases b
    · simp only [cond_false]; rw [key false hb]
    · simp only [cond_true]; rw [key true hb]
  · rfl
theorem refG_eq (ops : Array Oper) (o : Oper) (s : St) (K : St → Option R) : refG ops o s K = K s := by
  unfold refG
  repeat' split
  all_goals first | rfl | exact refT_eq _ _ _
theorem refC_eq (c : Operand) (s : St) (K : St → Option R) : refC c s K = K s := by
  unfold refC
  split
  · exact refT_eq _ _ _
  · rfl
theorem stepsR_eq (X : Ctx) (ops : Array Oper) : ∀ (l : List (Option (List Nat) × Oper)) (s : St) (K : St → Option R), stepsR X ops l s K = steps X ops l s K
  | [], _, _ => rfl
  | (q, o) :: l, s, K => by
    simp only [stepsR, steps]
    rw [refG_eq]
    congr 1
    funext s'
    exact stepsR_eq X ops l s' K
theorem frzF_nat (X : Ctx) (s : St) (b : Nat) (e : TypeId) (K : St → Option R) : frzF X s b e K = (frzF X s b e some).bind K := by
  unfold frzF
  simp only [Bool.cond_eq_ite]
  repeat' split
  all_goals rfl
theorem thawF_nat (s : St) (t nb : Nat) (K : St → Option R) : thawF s t nb K = (thawF s t nb some).bind K := by
  unfold thawF
  simp only [Bool.cond_eq_ite]
  repeat' split
  all_goals rfl
theorem stepB_nat (X : Ctx) (o : Oper) (s : St) (K : St → Option R) : stepB X o s K = (stepB X o s some).bind K := by
  unfold stepB
  split
  · rename_i d _
    cases Nat.blt d X.n && Nat.blt d passed
    · rfl
    · simp only [cond_true]
      rw [valF_nat, valF_nat (K := fun v => boxV s d v some), Option.bind_assoc]
      congr 1
      funext v
      unfold boxV
      repeat' split
      all_goals rfl
  · rfl
theorem steps_nat (X : Ctx) (ops : Array Oper) : ∀ (l : List (Option (List Nat) × Oper)) (s : St) (K : St → Option R), steps X ops l s K = (steps X ops l s some).bind K
  | [], _, _ => rfl
  | (q, o) :: l, s, K => by
    simp only [steps]
    rw [step1_nat, step1_nat (K := fun s' => steps X ops l s' some), Option.bind_assoc]
    congr 1
    funext s'
    exact steps_nat X ops l s' K
end
end Go.Proofs.Ythmdefgepnkgiaa.Eng
