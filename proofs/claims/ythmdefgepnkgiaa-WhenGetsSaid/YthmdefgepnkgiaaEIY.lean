/- An iterator's promise by evaluation: what it hands on, one behind the other; broken off, nothing more. Conditions: the relation between the two states. -/
import Derived.Test.YthmdefgepnkgiaaEI0
namespace Go.Proofs.Ythmdefgepnkgiaa.Eng
open Go
abbrev XS := List (Bool × List DV)
def xOf : List AV → Option XS
  | [] => some []
  | .one a cs :: r => match allD cs with
    | some row => match xOf r with
      | some l => some ((a, row) :: l)
      | none => none
    | none => none
  | .tup _ :: _ => none
def argsY (X : Ctx) (s : St) (c : Call) : Option XS :=
  match evAll X s 0 c.args.toList c.argTypes.toList with
  | some as => xOf as
  | none => none
def noSt : St := ⟨fun _ => .one false [.u], fun _ => none⟩
/-- Is it a call of yield? -/
def yieldOf (X : Ctx) (s : St) (o : Oper) : Option XS :=
  match o.op with
  | .call c => match c.callee with
    | .value fo => match evC s fo with
      | some (.yl l') => bif Nat.beq l' 0 && o.guard.isNone then argsY X s c else none
      | _ => none
    | _ => none
  | _ => none
def joinY (x : XS) : Option (List XS) → Option (List XS) → Option (List XS)
  | some [], some xs => some (x :: xs)
  | _, _ => none
def stepsY (X : Ctx) (ops : Array Oper) : List Oper → St → (St → Option (List XS)) → Option (List XS)
  | [], s, K => K (frz s)
  | o :: r, s, K => match yieldOf X (frz s) o with
    | some x => bif dstOk X.n o.dst then joinY x (stepsY X ops r (noSt.put o.dst (.bool false)) K) (stepsY X ops r ((frz s).put o.dst (.bool true)) K) else none
    | none => step1 X ops none o s fun s' => stepsY X ops r s' K
def codeY (X : Ctx) (fuel : Nat) (hint : Nat → Option (List Nat × List Nat)) : Code → St → (AX → St → Option (List XS)) → Option (List XS)
  | .skip, s, K => K .norm s
  | .seq a b, s, K => codeY X fuel hint a s fun e s' => match e with
    | .norm => codeY X fuel hint b s' K
    | e => K e s'
  | .cond c x y, s, K => refC c s fun s1 => match evB s1 c with
    | some b => bif b then codeY X fuel hint x s1 K else codeY X fuel hint y s1 K
    | none => none
  | .block id b, s, K => codeY X fuel hint b s fun e s' => match e with
    | .exit i => bif Nat.beq i id then K .norm s' else K (.exit i) s'
    | e => K e s'
  | .loop b, s, K => loopN (codeY X fuel hint b) fuel s K
  | .region id ops draw, s, K => bif draw then regionF X ops true s fun s' => keep (hint id) (frz s') fun s2 => K .norm s2 else stepsY X ops ops.toList s fun s' => keep (hint id) s' fun s2 => K .norm s2
  | .exit id, s, K => K (.exit id) s
  | .ret, s, K => K .ret s
  | _, _, _ => none
section
variable {P : Program} {X : Ctx} {l : Nat} {xs : List XS} {J Jx : Nat → (Nat → Nat) → World → Prop} {n y : Nat}
/-- Where one stands: so many have been handed on; or it was broken off. -/
def At (J Jx : Nat → (Nat → Nat) → World → Prop) (xs : List XS) : Option Nat → (Nat → Nat) → World → List XS → Prop
  | some i, S, w, ys => J i S w ∧ ys = xs.drop i ∧ i ≤ xs.length ∧ ∀ b, w.heap.size ≤ b → S b = 0
  | none, S, w, ys => (∃ i, ∃ S', Jx i S' w) ∧ ys = [] ∧ ∀ b, w.heap.size ≤ b → S b = 0
theorem At.grow (Y : YP P y xs J Jx) {m : Option Nat} {S S' : Nat → Nat} {w w' : World} {ys : List XS} (h : At J Jx xs m S w ys) (hg : Grows S w S' w') : At J Jx xs m S' w' ys := by
  cases m with
  | some i => exact ⟨Y.gJ _ _ _ _ _ h.1 hg, h.2.1, h.2.2.1, hg.2.2⟩
  | none =>
    obtain ⟨⟨i, S0, hx⟩, h2, _⟩ := h
    refine ⟨⟨i, fun b => if b < w.heap.size then S0 b else 0, Y.gX _ _ _ _ _ hx ⟨hg.1, fun b hb => if_pos hb, fun b hb => if_neg ?_⟩⟩, h2, hg.2.2⟩
    have := hg.1.size
    omega
theorem xOf_rep {S : Nat → Nat} {w : World} {y : Nat} : ∀ {as : List AV} {x : XS} {vals : List Value}, xOf as = some x → All2 (RepA (bare S y) w) as vals → All2 (RepX S w) x vals
  | [], x, vals, e, h => by obtain rfl := Option.some.inj e; cases h; exact .nil
  | .tup _ :: _, x, vals, e, h => by simp [xOf] at e
  | .one ag cs :: r, x, vals, e, h => by
    simp only [xOf] at e
    split at e
    case h_2 => cases e
    rename_i row hrow
    split at e
    case h_2 => cases e
    rename_i l hl
    obtain rfl := Option.some.inj e
    cases h with
    | cons h1 h2 =>
      refine .cons ?_ (xOf_rep hl h2)
      obtain ⟨h3, h4⟩ := allD_get hrow
      cases ag with
      | true =>
        obtain ⟨q, hv, hq⟩ := h1
        refine ⟨q, hv, All2.of_get (by rw [← h3]; exact hq.length) fun j y u hj hu => ?_⟩
        obtain ⟨c, hc, hd⟩ := h4 j y hj
        obtain ⟨u', hu', hk⟩ := hq.get j c hc
        rw [hu] at hu'
        obtain rfl := Option.some.inj hu'
        exact RepC.dv hk.1 hd
      | false =>
        obtain ⟨c, rfl, hc⟩ := h1
        cases row with
        | nil => simp at h3
        | cons y row =>
          obtain ⟨c', hc', hd⟩ := h4 0 y rfl
          simp at hc'
          subst hc'
          cases row with
          | nil => exact ⟨y, rfl, RepC.dv hc hd⟩
          | cons _ _ => simp at h3
theorem stepsY_ok (hX : XOK P X) (hn : X.n = n) (Y : YP P y xs J Jx) {m : Nat} {ops : Array Oper} {Q : Exit → Act → World → Prop} {K : St → Option (List XS)}
    (hQ : ∀ md S a w s ys, At J Jx xs md S w ys → Rel (entY w S n [] y) (bare S y) s a w → K s = some ys → Q .normal a w) :
    ∀ (os : List Oper), (∀ o ∈ os, notDefer o.op = true) → ∀ {md : Option Nat} {S0 : Nat → Nat} {w0 : World} {s : St} {g : Gh} {a : Act} {w : World} {ys : List XS}, At J Jx xs md S0 w0 ys → Rel (entY w0 S0 n [] y) g s a w → stepsY X ops os s K = some ys → wpListIn (FW none) m P ops Q os a w
  | [], _, md, S0, w0, s, g, a, w, ys, hA, h, e => by
    obtain ⟨h1, h2, _⟩ := frz_ok h
    exact hQ md _ a w _ ys (hA.grow Y h2) h1 e
  | o :: os, hd, md, S0, w0, s, g, a, w, ys, hA, h, e => by
    simp only [stepsY] at e
    split at e
    · rename_i x hx
      obtain ⟨hdst, e⟩ := b_true e
      obtain ⟨h1, h2, _⟩ := frz_ok h
      have hA1 := hA.grow Y h2
      generalize frzS S0 g w0 w = S1 at h1 hA1
      clear hA h2
      unfold yieldOf at hx
      split at hx
      case h_2 => cases hx
      rename_i c ho
      split at hx
      case h_2 => cases hx
      rename_i fo hcal
      split at hx
      case h_2 => cases hx
      rename_i l' hfo
      obtain ⟨hl, hx2⟩ := b_true hx
      clear hx
      simp only [Bool.and_eq_true] at hl
      have hll := beq_true hl.1
      unfold argsY at hx2
      split at hx2
      case h_2 => cases hx2
      rename_i as has
      have hf := evC_ok h1 hfo
      have hf : a.eval fo = .func (.yield y) #[] #[] := by
        rw [hll] at hf
        have hf' : a.eval fo = .func (.yield (0 + y)) #[] #[] := hf
        rwa [Nat.zero_add] at hf'
      have hav := evAll_ok h1 has
      have hxx := xOf_rep hx2 hav
      have hw : Region.wanted o (yielded ops a.tmps) = true := by
        have := hl.2
        simp [Option.isNone_iff_eq_none] at this
        simp [Region.wanted, this]
      refine list_one hw ?_
      obtain ⟨zs, e1, e2, rfl⟩ : ∃ zs, stepsY X ops os (noSt.put o.dst (.bool false)) K = some [] ∧ stepsY X ops os ((frz s).put o.dst (.bool true)) K = some zs ∧ ys = x :: zs := by
        unfold joinY at e
        split at e
        · rename_i zs h3 h4
          exact ⟨zs, h3, h4, (Option.some.inj e).symm⟩
        · cases e
      cases md with
      | none => exact absurd hA1.2.1 (List.cons_ne_nil _ _)
      | some i =>
        obtain ⟨hJ, hys, _, hS⟩ := hA1
        have hxi : xs[i]? = some x := by
          have := congrArg (fun l => l[0]?) hys
          simpa using this.symm
        have hdr : zs = xs.drop (i + 1) := by
          have := congrArg List.tail hys
          rw [List.tail_drop] at this
          exact this
        refine yield_op (l := y) (vals := c.args.toList.map a.eval) ho hcal hf (by apply Array.ext'; simp) (Y.y (m - 1) i _ _ _ _ hxi hJ hxx) ?_
        rintro e3 w3 ⟨hsz3, ⟨rfl, hJ3, ex3⟩ | ⟨rfl, hJ3⟩⟩
        · have hS3 : ∀ b, w3.heap.size ≤ b → S1 b = 0 := fun b hb => hS b (Nat.le_trans hsz3 hb)
          have hr3 := (yield_go h1 ex3 hS3)
          have hr3 : Rel (entY w3 S1 n [] y) (bare S1 y) ((frz s).put o.dst (.bool true)) (a.put o.dst (.bool true)) w3 := by
            have h5 := hr3.put o.dst (show dstOk n o.dst = true by rw [← hn]; exact hdst) (r := .bool true) (v := .bool true) ⟨_, rfl, .bool true⟩
            have h6 : (frz ⟨(frz s).tm, fun _ => none⟩) = frz s := by
              have hff : ∀ c, frzC (fun _ => none) (frzC s.bx c) = frzC s.bx c := by
                intro c
                cases c with
                | ptr b o r =>
                  cases r with
                  | some r => rfl
                  | none =>
                    simp only [frzC]
                    cases s.bx b with
                    | none => rfl
                    | some cs =>
                      simp only
                      cases allD cs with
                      | none => rfl
                      | some row =>
                        simp only
                        cases Nat.ble o row.length <;> rfl
                | _ => rfl
              have hfa : ∀ v : AV, (v.map (frzC s.bx)).map (frzC fun _ => none) = v.map (frzC s.bx) := by
                intro v
                cases v with
                | one ag cs =>
                  show AV.one _ _ = AV.one _ _
                  rw [List.map_map]
                  congr 1
                  exact List.map_congr_left fun c _ => hff c
                | tup vs =>
                  show AV.tup _ = AV.tup _
                  rw [List.map_map]
                  congr 1
                  refine List.map_congr_left fun p _ => ?_
                  show (p.1, _) = (p.1, _)
                  simp only [List.map_map]
                  congr 1
                  exact List.map_congr_left fun c _ => hff c
              show (⟨fun t => ((s.tm t).map (frzC s.bx)).map (frzC fun _ => none), fun _ => none⟩ : St) = ⟨fun t => (s.tm t).map (frzC s.bx), fun _ => none⟩
              simp only [hfa]
            rw [h6] at h5
            exact h5
          exact ⟨_, rfl, stepsY_ok hX hn Y hQ os (fun o ho => hd o (by simp [ho])) (md := some (i + 1)) ⟨hJ3, hdr, (List.getElem?_eq_some_iff.1 hxi).1, hS3⟩ hr3 e2⟩
        · have hr3 := (rel_any (w := w3) (n := n) (y := y) (a := a) h1.df h1.sz).put o.dst (show dstOk n o.dst = true by rw [← hn]; exact hdst) (r := .bool false) (v := .bool false) ⟨_, rfl, .bool false⟩
          have hgr : At J Jx xs none (fun _ => 0) w3 [] := ⟨⟨i, S1, hJ3⟩, rfl, fun _ _ => rfl⟩
          exact ⟨_, rfl, stepsY_ok hX hn Y hQ os (fun o ho => hd o (by simp [ho])) (md := none) hgr hr3 e1⟩
    · rename_i hx
      rw [step1_nat] at e
      obtain ⟨s2, h1, e⟩ := Option.bind_eq_some_iff.1 e
      simp only [wpListIn]
      rcases step1_ok hX (show (entY w0 S0 n [] y).n = X.n from hn.symm) h h1 with ⟨hw, hg⟩ | ⟨hw, g', hr⟩
      · rw [if_pos hw]
        refine op_FW (K := wpListIn (FW none) m P ops Q os) (hd o (by simp)) (fun _ _ h => h) (hg _ _ fun a' w' g' hr => ?_)
        exact stepsY_ok hX hn Y hQ os (fun o ho => hd o (by simp [ho])) hA hr e
      · rw [if_neg (by rw [hw]; simp)]
        exact ⟨fun _ _ => trivial, stepsY_ok hX hn Y hQ os (fun o ho => hd o (by simp [ho])) hA hr e⟩
theorem codeY_ok (hX : XOK P X) (hn : X.n = n) (hmix : P.follows .mixedOrders = true) (Y : YP P y xs J Jx) {fuel m : Nat} {hint : Nat → Option (List Nat × List Nat)} : ∀ (c : Code), plainC c = true → ∀ {md : Option Nat} {S : Nat → Nat} {s : St} {a : Act} {w : World} {ys : List XS} {K : AX → St → Option (List XS)} {Q : Exit → Act → World → Prop},
    At J Jx xs md S w ys → Rel (entY w S n [] y) (bare S y) s a w → codeY X fuel hint c s K = some ys →
    (∀ ax md S a w s ys, At J Jx xs md S w ys → Rel (entY w S n [] y) (bare S y) s a w → K ax s = some ys → Q (axTo ax) a w) → c.wpIn (FW none) m P Q a w := by
  intro c
  induction c with
  | skip => intro _ md S s a w ys K Q hA h e hQ; exact wpIn_skip (hQ .norm _ _ _ _ _ _ hA h e)
  | ret => intro _ md S s a w ys K Q hA h e hQ; exact wpIn_ret (hQ .ret _ _ _ _ _ _ hA h e)
  | exit id => intro _ md S s a w ys K Q hA h e hQ; exact wpIn_exit (hQ (.exit id) _ _ _ _ _ _ hA h e)
  | region id ops draw =>
    intro hp md S s a w ys K Q hA h e hQ
    simp only [codeY] at e
    have hdl : ∀ o ∈ ops.toList, notDefer o.op = true := fun o ho => by
      have : (ops.toList.all fun o => notDefer o.op) = true := hp
      simpa using List.all_eq_true.1 this o ho
    cases draw with
    | true =>
      simp only [cond_true] at e
      refine region_okIn hX (show (entY w S n [] y).n = X.n from hn.symm) hmix h hp (fun s' a' w' g' hk hr => ?_) e
      obtain ⟨h1, h2, _⟩ := frz_ok hr
      obtain ⟨s2, k1, k2⟩ := keep_ok hk
      exact hQ .norm md _ a' w' s2 ys (hA.grow Y h2) (k2 _ _ _ _ h1) k1
    | false =>
      simp only [cond_false] at e
      refine wpIn_region_list (stepsY_ok hX hn Y (fun md S a w s ys hA hr hk => ?_) ops.toList hdl hA h e)
      obtain ⟨s2, k1, k2⟩ := keep_ok hk
      exact hQ .norm md S a w s2 ys hA (k2 _ _ _ _ hr) k1
  | seq x y ihx ihy =>
    intro hp md S s a w ys K Q hA h e hQ
    simp only [codeY] at e
    refine wpIn_seq (ihx (plain_seq hp).1 hA h e fun ax md S a w s ys hA hr hk => ?_)
    cases ax with
    | norm => exact ihy (plain_seq hp).2 hA hr hk hQ
    | exit id => exact hQ (.exit id) md S a w s ys hA hr hk
    | ret => exact hQ .ret md S a w s ys hA hr hk
  | cond c x y ihx ihy =>
    intro hp md S s a w ys K Q hA h e hQ
    simp only [codeY] at e
    rw [refC_eq] at e
    split at e
    case h_2 => cases e
    rename_i b hb
    refine wpIn_cond (evB_ok h hb) ?_
    cases b with
    | true => exact ihx (plain_cond hp).1 hA h e hQ
    | false => exact ihy (plain_cond hp).2 hA h e hQ
  | block id b ih =>
    intro hp md S s a w ys K Q hA h e hQ
    simp only [codeY] at e
    refine wpIn_block (ih (by simpa [plainC] using hp) hA h e fun ax md S a w s ys hA hr hk => ?_)
    cases ax with
    | norm => exact hQ .norm md S a w s ys hA hr hk
    | exit i =>
      show Exit.inBlock id Q (.exit i) a w
      simp only [Exit.inBlock]
      simp only at hk
      cases hb : Nat.beq i id
      · rw [hb] at hk
        rw [if_neg (beq_false hb)]; exact hQ (.exit i) md S a w s ys hA hr hk
      · rw [hb] at hk
        rw [if_pos (beq_true hb)]; exact hQ .norm md S a w s ys hA hr hk
    | ret => exact hQ .ret md S a w s ys hA hr hk
  | loop b ih =>
    intro hp md S s a w ys K Q hA h e hQ
    simp only [codeY] at e
    refine wpIn_loop_rounds fuel ?_
    have key : ∀ k (md : Option Nat) (S : Nat → Nat) (s : St) (a : Act) (w : World) (ys : List XS), At J Jx xs md S w ys → Rel (entY w S n [] y) (bare S y) s a w → loopN (codeY X fuel hint b) k s K = some ys → Code.roundsIn (FW none) m P b Q k a w := by
      intro k
      induction k with
      | zero => intro md S s a w ys _ _ e; cases e
      | succ k ihk =>
        intro md S s a w ys hA h e
        simp only [loopN] at e
        rw [roundsIn_succ]
        refine ih (by simpa [plainC] using hp) hA h e fun ax md S a w s ys hA hr hk => ?_
        cases ax with
        | norm => exact ihk md S s a w ys hA hr hk
        | exit id => exact hQ (.exit id) md S a w s ys hA hr hk
        | ret => exact hQ .ret md S a w s ys hA hr hk
    exact key fuel md S s a w ys hA h e
  | _ => intro hp; simp [plainC] at hp
/-- How an iterator ends. -/
def endY : AX → St → Option (List XS)
  | .exit _, _ => none
  | _, _ => some []
/-- AN ITERATOR's PROMISE. -/
theorem iterY_ok (hmix : P.follows .mixedOrders = true) {f : FuncId} {fn : Func} {c : Code} (hf : P.funcs[f]? = some fn) (hname : (fn.name == "runtime.NumGoroutine") = false) (hc : fn.body = some c) (hp : plainC c = true) (hres : fn.results = #[]) {rows : List (List DV)} (hlen : rows.length + 1 ≤ fn.ntmps) {fuel : Nat} {hint : Nat → Option (List Nat × List Nat)}
    {xs : List XS} (e : codeY (XY P fn.ntmps) fuel hint c ⟨startT 0 (.c (.yl 0) :: rows.map fun r => .c (.ep r)), startB 0 []⟩ endY = some xs) : IterOK P f rows xs := by
  refine ⟨⟨fn, hf, hname, by rw [hc]; rfl⟩, fun S w ps hS hps k l J Jx gJ gX y hJ => ?_⟩
  have Y : YP P l xs J Jx := ⟨gJ, gX, y⟩
  refine callsIn_of_wp_marks (F := FW none) hf hc trivial ?_
  have hargs : All2 (RepA (bare S l) w) (.c (.yl 0) :: rows.map fun r => AV.c (.ep r)) (.func (.yield l) #[] #[] :: ps) := by
    refine .cons ⟨_, rfl, by show _ = Value.func (.yield (0 + l)) #[] #[]; rw [Nat.zero_add]⟩ (hps.map_left _ fun r p h => ⟨_, rfl, h⟩)
  have hpl := hps.length
  have hr := start_rel (n := fn.ntmps) hS hargs (by simp; omega)
  have hv : (#[Value.func (.yield l) #[] #[]] ++ ps.toArray) = (Value.func (.yield l) #[] #[] :: ps).toArray := by simp
  rw [hv]
  refine codeY_ok (XY_ok P fn.ntmps) rfl hmix Y c hp (md := some 0) (ys := xs) ⟨hJ, rfl, Nat.zero_le _, hS⟩ hr e fun ax md S a w s ys hA hr hk => ?_
  have fin : ys = [] → bodyPostM (FW none) k P fn (fun e W' => (∃ v, e = .returned v) ∧ ((∃ S', J xs.length S' W') ∨ ∃ i S', Jx i S' W')) .ret a w := by
    rintro rfl
    show LeavesInM _ _ _ _ _ _ a.defers .returning w
    rw [hr.df]
    refine ⟨.tuple #[], ?_, ⟨_, rfl⟩, ?_⟩
    · unfold results
      rw [hres]
      simp
    · cases md with
      | none => exact .inr ⟨_, _, hA.1.choose_spec.choose_spec⟩
      | some i =>
        obtain ⟨h1, h2, h3, _⟩ := hA
        left
        have hl : xs.length = i := by
          have := congrArg List.length h2
          simp at this
          omega
        rw [hl]
        exact ⟨_, h1⟩
  cases ax with
  | exit id => cases hk
  | norm => exact fin (Option.some.inj hk).symm
  | ret => exact fin (Option.some.inj hk).symm
end
end Go.Proofs.Ythmdefgepnkgiaa.Eng
