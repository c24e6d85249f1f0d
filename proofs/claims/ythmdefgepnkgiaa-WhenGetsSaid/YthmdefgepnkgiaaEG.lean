/- The evaluator with loops told in one step, each by a function of its own. Conditions: what is told of a loop is so. -/
import Derived.Test.YthmdefgepnkgiaaE16
import Derived.Test.YthmdefgepnkgiaaEI0
namespace Go.Proofs.Ythmdefgepnkgiaa.Eng
open Go
structure HookS where
  go : ∀ {R : Type}, St → (AX → St → Option R) → Option R
abbrev Hook := Nat → Option HookS
def codeH {R : Type} (X : Ctx) (fuel : Nat) (hint : Nat → Option (List Nat × List Nat)) (hk : Hook) : Code → St → (AX → St → Option R) → Option R
  | .skip, s, K => K .norm s
  | .seq a b, s, K => codeH X fuel hint hk a s fun e s' => match e with
    | .norm => codeH X fuel hint hk b s' K
    | e => K e s'
  | .cond c x y, s, K => refC c s fun s1 => match evB s1 c with
    | some b => bif b then codeH X fuel hint hk x s1 K else codeH X fuel hint hk y s1 K
    | none => none
  | .block id b, s, K => match hk id with
    | some g => g.go s K
    | none => codeH X fuel hint hk b s fun e s' => match e with
      | .exit i => bif Nat.beq i id then K .norm s' else K (.exit i) s'
      | e => K e s'
  | .loop b, s, K => loopN (codeH X fuel hint hk b) fuel s K
  | .region id ops draw, s, K => prepF X (X.prep id) s fun s0 => regionF X ops draw s0 fun s' => keep (hint id) s' fun s'' => K .norm s''
  | .exit id, s, K => K (.exit id) s
  | .ret, s, K => K .ret s
  | .rangeFunc g ps a b, s, K => code X fuel hint (.rangeFunc g ps a b) s K
  | _, _, _ => none
def blocksOf : Code → List (Nat × Code)
  | .seq a b => blocksOf a ++ blocksOf b
  | .cond _ a b => blocksOf a ++ blocksOf b
  | .block id b => (id, b) :: blocksOf b
  | .loop b => blocksOf b
  | _ => []
/-- Less is told. -/
def Weak (s s0 : St) : Prop := (∀ t, s0.tm t = s.tm t ∨ s0.tm t = .one false [.u]) ∧ ∀ b cells, s0.bx b = some cells → s.bx b = some cells
/-- What is told of a part of the text is so. -/
def PartOK (P : Program) (X : Ctx) {R : Type} (r : R) (F : St → (AX → St → Option R) → Option R) (c : Code) : Prop :=
  ∀ {ro : Option Nat} {n : Nat} {E0 E : Ent} {s : St} {K : AX → St → Option R} {g : Gh} {a : Act} {w : World} {Q : Exit → Act → World → Prop},
    ((ro = none ∧ Top E0) ∨ plainC c = true) → ((∀ id, X.prep id = []) ∨ (plainC c = true ∧ E = E0 ∧ Top E0)) → Inv X E0 E → F s K = some r → Rel E g s a w →
    (∀ ax s' a' w' g' E', K ax s' = some r → Rel E' g' s' a' w' → Inv X E0 E' → (plainC c = true → E' = E) → Q (axTo ax) a' w') → c.wpIn (FW ro) n P Q a w
structure Part (P : Program) (X : Ctx) {R : Type} (r : R) (F : St → (AX → St → Option R) → Option R) (c : Code) : Prop where
  ok : PartOK P X r F c
def JustG (P : Program) (X : Ctx) (hk : Hook) (c : Code) : Prop :=
  ∀ p ∈ blocksOf c, ∀ g, hk p.1 = some g → ∀ (R : Type) (r : R), Part P X r g.go (.block p.1 p.2)
theorem JustG.of {P : Program} {X : Ctx} {hk : Hook} {c d : Code} (h : JustG P X hk c) (hs : ∀ p ∈ blocksOf d, p ∈ blocksOf c) : JustG P X hk d :=
  fun p hp => h p (hs p hp)
section
variable {P : Program} {X : Ctx}
theorem codeH_ok (hX : XOK P X) (hI : XI P X) (hmix : P.follows .mixedOrders = true) {R : Type} {fuel : Nat} {hint : Nat → Option (List Nat × List Nat)} {hk : Hook} {r : R} : ∀ (c : Code), JustG P X hk c → PartOK P X r (codeH X fuel hint hk c) c := by
  intro c
  induction c with
  | skip => intro hJ ro n E0 E s K g a w Q _ _ hInv e h hQ; exact wpIn_skip (hQ .norm _ _ _ _ _ e h hInv fun _ => rfl)
  | ret => intro hJ ro n E0 E s K g a w Q _ _ hInv e h hQ; exact wpIn_ret (hQ .ret _ _ _ _ _ e h hInv fun _ => rfl)
  | exit id => intro hJ ro n E0 E s K g a w Q _ _ hInv e h hQ; exact wpIn_exit (hQ (.exit id) _ _ _ _ _ e h hInv fun _ => rfl)
  | region id ops draw =>
    intro hJ ro n E0 E s K g a w Q hR hP hInv e h hQ
    simp only [codeH] at e
    obtain ⟨s, g, e, h⟩ : ∃ s0 g', (regionF X ops draw s0 fun s' => keep (hint id) s' fun s'' => K .norm s'') = some r ∧ Rel E g' s0 a w := by
      rcases hP with hno | ⟨_, rfl, hT⟩
      · rw [hno] at e; exact ⟨s, g, e, h⟩
      · exact prep_ok (fun b o hb => by obtain ⟨d, h1, h2, _⟩ := hT.who b o hb; exact ⟨d, h1, h2⟩) hT.s0 _ h e
    have hQ' : ∀ s' a' w' g', (fun s' => keep (hint id) s' fun s'' => K .norm s'') s' = some r → Rel E g' s' a' w' → Q .normal a' w' := fun s' a' w' g' hk hr => by
      obtain ⟨s'', h1, h2⟩ := keep_ok hk
      exact hQ .norm s'' a' w' g' E h1 (h2 _ _ _ _ hr) hInv fun _ => rfl
    rcases hR with ⟨rfl, _⟩ | hpl
    · refine wpIn_wide.2 ?_
      cases draw with
      | false => exact wp_region_list (region_list_ok hX hInv.n hQ' h e)
      | true => exact wp_region_any hmix (region_any_ok hX hInv.n hQ' h e)
    · exact region_okIn hX hInv.n hmix h hpl hQ' e
  | seq x y ihx ihy =>
    intro hJ ro n E0 E s K g a w Q hR hP hInv e h hQ
    simp only [codeH] at e
    have hRx : (ro = none ∧ Top E0) ∨ plainC x = true := hR.imp (fun h => h) fun hh => (plain_seq hh).1
    have hRy : (ro = none ∧ Top E0) ∨ plainC y = true := hR.imp (fun h => h) fun hh => (plain_seq hh).2
    have hPx : (∀ id, X.prep id = []) ∨ (plainC x = true ∧ E = E0 ∧ Top E0) := hP.imp (fun h => h) fun hh => ⟨(plain_seq hh.1).1, hh.2⟩
    refine wpIn_seq (ihx (hJ.of fun p hp => by simp [blocksOf, hp]) hRx hPx hInv e h fun ax s' a' w' g' E' hk hr hInv' hE => ?_)
    have hE' : plainC (.seq x y) = true → E' = E := fun hh => hE (plain_seq hh).1
    cases ax with
    | norm => exact ihy (hJ.of fun p hp => by simp [blocksOf, hp]) hRy (hP.imp (fun h => h) fun hh => ⟨(plain_seq hh.1).2, (hE' hh.1).trans hh.2.1, hh.2.2⟩) hInv' hk hr fun ax s2 a2 w2 g2 E2 hk2 hr2 hInv2 hE2 => hQ ax s2 a2 w2 g2 E2 hk2 hr2 hInv2 fun hh => (hE2 (plain_seq hh).2).trans (hE' hh)
    | exit id => exact hQ (.exit id) s' a' w' g' E' hk hr hInv' hE'
    | ret => exact hQ .ret s' a' w' g' E' hk hr hInv' hE'
  | cond c x y ihx ihy =>
    intro hJ ro n E0 E s K g a w Q hR hP hInv e h hQ
    simp only [codeH] at e
    rw [refC_eq] at e
    split at e
    case h_2 => cases e
    rename_i b hb
    refine wpIn_cond (evB_ok h hb) ?_
    cases b with
    | true => exact ihx (hJ.of fun p hp => by simp [blocksOf, hp]) (hR.imp (fun h => h) fun hh => (plain_cond hh).1) (hP.imp (fun h => h) fun hh => ⟨(plain_cond hh.1).1, hh.2⟩) hInv e h fun ax s' a' w' g' E' hk hr hi hE => hQ ax s' a' w' g' E' hk hr hi fun hh => hE (plain_cond hh).1
    | false => exact ihy (hJ.of fun p hp => by simp [blocksOf, hp]) (hR.imp (fun h => h) fun hh => (plain_cond hh).2) (hP.imp (fun h => h) fun hh => ⟨(plain_cond hh.1).2, hh.2⟩) hInv e h fun ax s' a' w' g' E' hk hr hi hE => hQ ax s' a' w' g' E' hk hr hi fun hh => hE (plain_cond hh).2
  | block id b ih =>
    intro hJ ro n E0 E s K g a w Q hR hP hInv e h hQ
    simp only [codeH] at e
    cases hh : hk id with
    | some gg =>
      rw [hh] at e
      simp only at e
      exact (hJ (id, b) (by simp [blocksOf]) gg hh R r).ok hR hP hInv e h hQ
    | none =>
    rw [hh] at e
    simp only at e
    refine wpIn_block (ih (hJ.of fun p hp => by simp [blocksOf, hp]) (hR.imp (fun h => h) fun hh => by simpa [plainC] using hh) (hP.imp (fun h => h) fun hh => ⟨by simpa [plainC] using hh.1, hh.2⟩) hInv e h fun ax s' a' w' g' E' hk hr hInv' hE => ?_)
    have hE' : plainC (.block id b) = true → E' = E := fun hh => hE (by simpa [plainC] using hh)
    cases ax with
    | norm => exact hQ .norm s' a' w' g' E' hk hr hInv' hE'
    | exit i =>
      show Exit.inBlock id Q (.exit i) a' w'
      simp only [Exit.inBlock]
      simp only at hk
      cases hb : Nat.beq i id
      · rw [hb] at hk
        rw [if_neg (beq_false hb)]; exact hQ (.exit i) s' a' w' g' E' hk hr hInv' hE'
      · rw [hb] at hk
        rw [if_pos (beq_true hb)]; exact hQ .norm s' a' w' g' E' hk hr hInv' hE'
    | ret => exact hQ .ret s' a' w' g' E' hk hr hInv' hE'
  | loop b ih =>
    intro hJ ro n E0 E s K g a w Q hR hP hInv e h hQ
    simp only [codeH] at e
    have hRb : (ro = none ∧ Top E0) ∨ plainC b = true := hR.imp (fun h => h) fun hh => by simpa [plainC] using hh
    refine wpIn_loop_rounds fuel ?_
    have key : ∀ m (E : Ent) (s : St) (g : Gh) (a : Act) (w : World), ((∀ id, X.prep id = []) ∨ (plainC b = true ∧ E = E0 ∧ Top E0)) → loopN (codeH X fuel hint hk b) m s K = some r → Rel E g s a w → Inv X E0 E →
        (∀ ax s' a' w' g' E', K ax s' = some r → Rel E' g' s' a' w' → Inv X E0 E' → (plainC (.loop b) = true → E' = E) → Q (axTo ax) a' w') → Code.roundsIn (FW ro) n P b Q m a w := by
      intro m
      induction m with
      | zero => intro E s g a w _ e _ _ _; cases e
      | succ m ihm =>
        intro E s g a w hP e h hInv hQ
        simp only [loopN] at e
        rw [roundsIn_succ]
        refine ih (hJ.of fun p hp => by simpa [blocksOf] using hp) hRb hP hInv e h fun ax s' a' w' g' E' hk hr hInv' hE => ?_
        have hE' : plainC (.loop b) = true → E' = E := fun hh => hE (by simpa [plainC] using hh)
        cases ax with
        | norm => exact ihm E' s' g' a' w' (hP.imp (fun h => h) fun hh => ⟨hh.1, (hE' (by simpa [plainC] using hh.1)).trans hh.2.1, hh.2.2⟩) hk hr hInv' fun ax s2 a2 w2 g2 E2 hk2 hr2 hi2 hE2 => hQ ax s2 a2 w2 g2 E2 hk2 hr2 hi2 fun hh => (hE2 hh).trans (hE' hh)
        | exit id => exact hQ (.exit id) s' a' w' g' E' hk hr hInv' hE'
        | ret => exact hQ .ret s' a' w' g' E' hk hr hInv' hE'
    exact key fuel E s g a w (hP.imp (fun h => h) fun hh => ⟨by simpa [plainC] using hh.1, hh.2⟩) e h hInv hQ
  | rangeFunc x ps cA cB iA iB => intro hJ; exact code_ok hX hI hmix (.rangeFunc x ps cA cB)
  | _ => intro hJ ro n E0 E s K g a w Q _ _ _ e; simp only [codeH] at e; cases e
/-- A loop, round by round; behind each round, and behind the loop, only what is asked for is kept. -/
def roundsG {R : Type} (X : Ctx) (fuel : Nat) (hint : Nat → Option (List Nat × List Nat)) (hk : Hook) (i : Nat) (hin : List Nat × List Nat) (hout : AX → Option (List Nat × List Nat)) (b : Code) : Nat → St → (AX → St → Option R) → Option R
  | 0, _, _ => none
  | n + 1, s, K => codeH X fuel hint hk b s fun ax s' => match ax with
    | .norm => keep (some hin) s' fun s0 => roundsG X fuel hint hk i hin hout b n s0 K
    | .exit j => bif Nat.beq j i then keep (hout .norm) s' fun s0 => K .norm s0 else keep (hout (.exit j)) s' fun s0 => K (.exit j) s0
    | .ret => keep (hout .ret) s' fun s0 => K .ret s0
theorem rounds_ok (hX : XOK P X) (hI : XI P X) (hmix : P.follows .mixedOrders = true) {fuel : Nat} {hint : Nat → Option (List Nat × List Nat)} {hk : Hook} {i : Nat} {hin : List Nat × List Nat} {hout : AX → Option (List Nat × List Nat)} {b : Code} (hJ : JustG P X hk b) {R : Type} {r : R}
    {F : St → (AX → St → Option R) → Option R} (hF : ∀ s K, F s K = some r → ∃ m s0, Weak s s0 ∧ roundsG X fuel hint hk i hin hout b m s0 K = some r) : Part P X r F (.block i (.loop b)) := by
  refine ⟨?_⟩
  intro ro n E0 E s K g a w Q hR hP hInv e h hQ
  obtain ⟨m, s0, hwk, e⟩ := hF s K e
  replace h := rel_weak h hwk.1 hwk.2
  clear hwk hF
  have hpl : plainC (.block i (.loop b)) = plainC b := rfl
  rw [hpl] at hR hP hQ
  refine wpIn_block (wpIn_loop_rounds m ?_)
  have key : ∀ m (E : Ent) (s : St) (g : Gh) (a : Act) (w : World), ((∀ id, X.prep id = []) ∨ (plainC b = true ∧ E = E0 ∧ Top E0)) → roundsG X fuel hint hk i hin hout b m s K = some r → Rel E g s a w → Inv X E0 E →
      (∀ ax s' a' w' g' E', K ax s' = some r → Rel E' g' s' a' w' → Inv X E0 E' → (plainC b = true → E' = E) → Q (axTo ax) a' w') → Code.roundsIn (FW ro) n P b (Exit.inBlock i Q) m a w := by
    intro m
    induction m with
    | zero => intro E s g a w _ e _ _ _; cases e
    | succ m ihm =>
      intro E s g a w hP e h hInv hQ
      simp only [roundsG] at e
      rw [roundsIn_succ]
      refine codeH_ok hX hI hmix b hJ hR hP hInv e h fun ax s' a' w' g' E' hk hr hInv' hE => ?_
      cases ax with
      | norm =>
        obtain ⟨s2, h1, h2⟩ := keep_ok hk
        exact ihm E' s2 g' a' w' (hP.imp (fun h => h) fun hh => ⟨hh.1, (hE hh.1).trans hh.2.1, hh.2.2⟩) h1 (h2 _ _ _ _ hr) hInv' fun ax s3 a3 w3 g3 E3 hk3 hr3 hi3 hE3 => hQ ax s3 a3 w3 g3 E3 hk3 hr3 hi3 fun hh => (hE3 hh).trans (hE hh)
      | exit j =>
        show Exit.inBlock i Q (.exit j) a' w'
        simp only [Exit.inBlock]
        simp only at hk
        cases hb : Nat.beq j i
        · rw [hb] at hk
          obtain ⟨s2, h1, h2⟩ := keep_ok hk
          rw [if_neg (beq_false hb)]; exact hQ (.exit j) s2 a' w' g' E' h1 (h2 _ _ _ _ hr) hInv' hE
        · rw [hb] at hk
          obtain ⟨s2, h1, h2⟩ := keep_ok hk
          rw [if_pos (beq_true hb)]; exact hQ .norm s2 a' w' g' E' h1 (h2 _ _ _ _ hr) hInv' hE
      | ret =>
        obtain ⟨s2, h1, h2⟩ := keep_ok hk
        exact hQ .ret s2 a' w' g' E' h1 (h2 _ _ _ _ hr) hInv' hE
  exact key m E s0 g a w hP e h hInv hQ
/-- A block that is told as one step. -/
theorem block_ok (hX : XOK P X) (hI : XI P X) (hmix : P.follows .mixedOrders = true) {fuel : Nat} {hint : Nat → Option (List Nat × List Nat)} {hk : Hook} {i : Nat} {hout : AX → Option (List Nat × List Nat)} {b : Code} (hJ : JustG P X hk b) {R : Type} {r : R}
    {F : St → (AX → St → Option R) → Option R} (hF : ∀ s K, F s K = some r → ∃ s0, Weak s s0 ∧ (codeH X fuel hint hk b s0 fun ax s' => match ax with
      | .exit j => bif Nat.beq j i then keep (hout .norm) s' fun s0 => K .norm s0 else keep (hout (.exit j)) s' fun s0 => K (.exit j) s0
      | ax => keep (hout ax) s' fun s0 => K ax s0) = some r) : Part P X r F (.block i b) := by
  refine ⟨?_⟩
  intro ro n E0 E s K g a w Q hR hP hInv e h hQ
  obtain ⟨s0, hwk, e⟩ := hF s K e
  replace h := rel_weak h hwk.1 hwk.2
  clear hwk hF
  have hpl : plainC (.block i b) = plainC b := rfl
  rw [hpl] at hR hP hQ
  refine wpIn_block (codeH_ok hX hI hmix b hJ hR hP hInv e h fun ax s' a' w' g' E' hk hr hInv' hE => ?_)
  cases ax with
  | norm =>
    obtain ⟨s2, h1, h2⟩ := keep_ok hk
    exact hQ .norm s2 a' w' g' E' h1 (h2 _ _ _ _ hr) hInv' hE
  | exit j =>
    show Exit.inBlock i Q (.exit j) a' w'
    simp only [Exit.inBlock]
    simp only at hk
    cases hb : Nat.beq j i
    · rw [hb] at hk
      obtain ⟨s2, h1, h2⟩ := keep_ok hk
      rw [if_neg (beq_false hb)]; exact hQ (.exit j) s2 a' w' g' E' h1 (h2 _ _ _ _ hr) hInv' hE
    · rw [hb] at hk
      obtain ⟨s2, h1, h2⟩ := keep_ok hk
      rw [if_pos (beq_true hb)]; exact hQ .norm s2 a' w' g' E' h1 (h2 _ _ _ _ hr) hInv' hE
  | ret =>
    obtain ⟨s2, h1, h2⟩ := keep_ok hk
    exact hQ .ret s2 a' w' g' E' h1 (h2 _ _ _ _ hr) hInv' hE
end
/-- A function's own text, its loops told. -/
def evalBH (T : Tab) (hk : Hook) (call : FuncId → List AV → List (List CV) → CallK) (f : FuncId) (as : List AV) (bs : List (List CV)) : Option Res :=
  match T.fn f with
  | some fn => match fn.body with
    | some c => bif Nat.ble as.length fn.ntmps && Nat.blt bs.length passed then
        codeH ⟨T.ty, call, fn.ntmps, T.iter, T.mu f, bif plainC c then T.prep f else fun _ => [], T.pre⟩ T.fuel (T.hint f) hk c ⟨startT 0 as, startB 0 bs⟩ fun e s => match e with
          | .exit _ => none
          | _ => finish ⟨T.ty, call, fn.ntmps, T.iter, T.mu f, bif plainC c then T.prep f else fun _ => [], T.pre⟩ fn bs.length s
      else none
    | none => none
  | none => none
/-- The frame in which a function's text is reckoned. -/
def ctxOf (T : Tab) (call : FuncId → List AV → List (List CV) → CallK) (f : FuncId) : Ctx :=
  match T.fn f with
  | some fn => ⟨T.ty, call, fn.ntmps, T.iter, T.mu f, match fn.body with | some c => bif plainC c then T.prep f else fun _ => [] | none => fun _ => [], T.pre⟩
  | none => ⟨T.ty, call, 0, T.iter, T.mu f, fun _ => [], T.pre⟩
def bodyOf (T : Tab) (f : FuncId) : Code := match T.fn f with | some fn => (match fn.body with | some c => c | none => .skip) | none => .skip
theorem evalBH_ok {P : Program} {T : Tab} (hT : TabOK P T) {hk : Hook} {call : FuncId → List AV → List (List CV) → CallK} (hcall : ∀ f as bs r, T.pre f as bs = true → (call f as bs).go some = some r → CallOK P f as bs r) (f : FuncId) (hJ : JustG P (ctxOf T call f) hk (bodyOf T f)) (as : List AV) (bs : List (List CV)) (r : Res) (e : evalBH T hk call f as bs = some r) : CallOK P f as bs r := by
  unfold evalBH at e
  split at e
  case h_2 => cases e
  rename_i fn hfn
  split at e
  case h_2 => cases e
  rename_i c hc
  obtain ⟨hb, e2⟩ := b_true e
  clear e
  simp only [Bool.and_eq_true] at hb
  have hal := ble_true hb.1
  obtain ⟨hf, hname⟩ := hT.fn f fn hfn
  have hctx : ctxOf T call f = ⟨T.ty, call, fn.ntmps, T.iter, T.mu f, bif plainC c then T.prep f else fun _ => [], T.pre⟩ := by unfold ctxOf; rw [hfn]; simp only [hc]
  have hbody : bodyOf T f = c := by unfold bodyOf; rw [hfn]; simp only [hc]
  rw [hctx, hbody] at hJ
  have hX : XOK P ⟨T.ty, call, fn.ntmps, T.iter, T.mu f, bif plainC c then T.prep f else fun _ => [], T.pre⟩ := ⟨hT.ty, hcall⟩
  refine enter_ok hX hf hname hc rfl hal (Nat.lt_of_succ_le (by simpa [Nat.blt] using hb.2)) fun E g a w hn hdf hTop hrel Q hQ => ?_
  have hP : (∀ id, (⟨T.ty, call, fn.ntmps, T.iter, T.mu f, bif plainC c then T.prep f else fun _ => [], T.pre⟩ : Ctx).prep id = []) ∨ (plainC c = true ∧ E = E ∧ Top E) := by
    cases hpl : plainC c
    · exact .inl fun _ => rfl
    · exact .inr ⟨rfl, rfl, hTop⟩
  refine codeH_ok hX (fun f rows xs h => hT.iter f rows xs h) hT.mix c hJ (.inl ⟨rfl, hTop⟩) hP (Inv.refl hn (Nat.le_trans hTop.top (Nat.mul_le_mul_right _ (by omega))) hdf) e2 hrel fun ax s' a' w' g' E' hk hr hInv _ => hQ ax s' a' w' g' E' (by cases ax <;> exact hk) hr hInv
/-! ### States that are written out -/
def mkT : List (Nat × AV) → (Nat → AV) → Nat → AV
  | [], f => f
  | (t, v) :: r, f => mkT r (upd f t v)
def mkB : List (Nat × List CV) → BX → BX
  | [], f => f
  | (b, v) :: r, f => mkB r (upd f b (some v))
def mkS (ts : List (Nat × AV)) (bs : List (Nat × List CV)) : St := ⟨mkT ts (fun _ => .one false [.u]), mkB bs fun _ => none⟩
theorem mkT_weak {tm : Nat → AV} : ∀ (ts : List (Nat × AV)) (f : Nat → AV), (∀ p ∈ ts, tm p.1 = p.2) → (∀ t, f t = tm t ∨ f t = .one false [.u]) → ∀ t, mkT ts f t = tm t ∨ mkT ts f t = .one false [.u]
  | [], f, _, hf, t => hf t
  | (u, v) :: r, f, h, hf, t => mkT_weak r (upd f u v) (fun p hp => h p (by simp [hp])) (fun t => by
      by_cases e : t = u
      · subst e; rw [upd_same]; exact .inl (h (t, v) (by simp)).symm
      · rw [upd_ne _ _ e]; exact hf t) t
theorem mkB_weak {bx : BX} : ∀ (bs : List (Nat × List CV)) (f : BX), (∀ p ∈ bs, bx p.1 = some p.2) → (∀ b cells, f b = some cells → bx b = some cells) → ∀ b cells, mkB bs f b = some cells → bx b = some cells
  | [], f, _, hf, b, cells, h => hf b cells h
  | (u, v) :: r, f, h, hf, b, cells, hb => mkB_weak r (upd f u (some v)) (fun p hp => h p (by simp [hp])) (fun t cs ht => by
      by_cases e : t = u
      · subst e; rw [upd_same] at ht; rw [← ht]; exact h (t, v) (by simp)
      · rw [upd_ne _ _ e] at ht; exact hf t cs ht) b cells hb
theorem mkS_weak {s : St} (ts : List (Nat × AV)) (bs : List (Nat × List CV)) (h1 : ∀ p ∈ ts, s.tm p.1 = p.2) (h2 : ∀ p ∈ bs, s.bx p.1 = some p.2) : Weak s (mkS ts bs) :=
  ⟨mkT_weak ts _ h1 fun _ => .inr rfl, mkB_weak bs _ h2 fun _ _ h => by cases h⟩
/-! ### Calls that are promised -/
def bindG {R α : Type} (o : Option α) (K : α → Option R) : Option R := match o with | some r => K r | none => none
def CallK.via {α : Type} (o : Option α) (enc : α → Res) : CallK := ⟨fun K => bindG o fun r => K (enc r), fun K => by cases o <;> rfl⟩
theorem via_some {α : Type} {o : Option α} {enc : α → Res} {r : Res} (h : (CallK.via o enc).go some = some r) : ∃ x, o = some x ∧ enc x = r := by
  cases o with
  | none => cases h
  | some x => exact ⟨x, rfl, Option.some.inj h⟩
theorem none_some {r : Res} (h : (CallK.of none).go some = some r) : False := by cases h
abbrev CK := List AV → List (List CV) → CallK
def CK.OK (P : Program) (f : FuncId) (c : CK) : Prop := ∀ as bs r, (c as bs).go some = some r → CallOK P f as bs r
abbrev Cks := List (FuncId × CK)
def findCk : Cks → FuncId → Option CK
  | [], _ => none
  | p :: r, f => bif Nat.beq f p.1 then some p.2 else findCk r f
theorem findCk_ok {P : Program} : ∀ {l : Cks} (_ : ∀ p ∈ l, p.2.OK P p.1) {f : FuncId} {c : CK}, findCk l f = some c → c.OK P f
  | [], _, _, _, h => by cases h
  | p :: r, hl, f, c, h => by
    simp only [findCk] at h
    cases hb : Nat.beq f p.1
    · rw [hb] at h; exact findCk_ok (fun q hq => hl q (by simp [hq])) h
    · rw [hb] at h
      obtain rfl := beq_true hb
      obtain rfl := Option.some.inj h
      exact hl p (by simp)
noncomputable def tabG (P : Program) (hint : FuncId → Nat → Option (List Nat × List Nat)) (l : Cks) (iter : FuncId → List (List DV) → Option (List (List (Bool × List DV)))) (mu : FuncId → Nat → Bool) (prep : FuncId → Nat → List Prep) : Tab :=
  tabOf P hint (findCk l) iter 100000 mu prep
theorem tabG_ok {P : Program} {hint : FuncId → Nat → Option (List Nat × List Nat)} {l : Cks} {iter : FuncId → List (List DV) → Option (List (List (Bool × List DV)))} {mu : FuncId → Nat → Bool} {prep : FuncId → Nat → List Prep} (hm : P.follows .mixedOrders = true) (hn : (P.funcs.toList.all fun fn => !(fn.name == "runtime.NumGoroutine")) = true)
    (hl : ∀ p ∈ l, p.2.OK P p.1) (hi : ∀ f rows xs, iter f rows = some xs → IterOK P f rows xs) : TabOK P (tabG P hint l iter mu prep) :=
  tabOf_ok hm hn (fun _ _ h as bs r _ e => findCk_ok hl h as bs r e) hi
/-! ### Results whose marks are dropped -/
def CV.tame : CV → CV
  | .own _ x => .d x
  | c => c
def AV.tame : AV → AV
  | .one a cs => .one a (cs.map CV.tame)
  | .tup vs => .tup (vs.map fun p => (p.1, p.2.map CV.tame))
theorem tame_rep {g : Gh} {w : World} {c : CV} {v : Value} (h : RepC g w c v) : RepC g w c.tame v := by
  cases c with
  | own t x => exact h.1
  | _ => exact h
theorem tame_all {R S : CV → Value → Prop} (hr : ∀ c v, R c v → S c.tame v) : ∀ {cs : List CV} {l : List Value}, All2 R cs l → All2 S (cs.map CV.tame) l
  | _, _, .nil => .nil
  | _, _, .cons h t => .cons (hr _ _ h) (tame_all hr t)
theorem tame_tup {R S : Bool × List CV → Value → Prop} (hr : ∀ p v, R p v → S (p.1, p.2.map CV.tame) v) : ∀ {cs : List (Bool × List CV)} {l : List Value}, All2 R cs l → All2 S (cs.map fun p => (p.1, p.2.map CV.tame)) l
  | _, _, .nil => .nil
  | _, _, .cons h t => .cons (hr _ _ h) (tame_tup hr t)
theorem tame_repA {g : Gh} {w : World} {a : AV} {v : Value} (h : RepA g w a v) : RepA g w a.tame v := by
  match a, h with
  | .one true cs, ⟨l, hv, hl⟩ => exact ⟨l, hv, tame_all (fun c v h => ⟨tame_rep h.1, h.2⟩) hl⟩
  | .one false cs, ⟨c, hc, hr⟩ => subst hc; exact ⟨c.tame, rfl, tame_rep hr⟩
  | .tup vs, ⟨l, hv, hl⟩ =>
    refine ⟨l, hv, tame_tup (fun p u h => ?_) hl⟩
    match p, h with
    | (true, cs), ⟨l, hu, hl⟩ => exact ⟨l, hu, tame_all (fun c v h => ⟨tame_rep h.1, h.2⟩) hl⟩
    | (false, cs), ⟨c, hc, hr⟩ =>
      obtain rfl : cs = [c] := hc
      exact ⟨c.tame, rfl, tame_rep hr⟩
theorem tame_ends {g : Gh} {w : World} {n : Nat} {r : Res} {e : Ending} {w' : World} (h : Ends g w n r e w') : Ends g w n (r.1.tame, r.2) e w' := by
  obtain ⟨v, g', h1, h2, h3, h4, h5⟩ := h
  exact ⟨v, g', h1, h2, tame_repA h3, h4, h5⟩
theorem tame_ok {P : Program} {f : FuncId} {avs : List AV} {bs : List (List CV)} {r : Res} (h : CallOK P f avs bs r) : CallOK P f avs bs (r.1.tame, r.2) :=
  ⟨h.1, fun g w vals h1 h2 h3 => (h.2 g w vals h1 h2 h3).mono fun _ _ he => tame_ends he⟩
end Go.Proofs.Ythmdefgepnkgiaa.Eng
