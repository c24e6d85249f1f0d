/- WHAT THE EVALUATOR TELLS OF A FUNCTION IS WHAT A CALL OF IT COMES TO. Conditions: the tables are the program's; what is taken from elsewhere keeps its promise. -/
import Derived.Test.YthmdefgepnkgiaaE15f
namespace Go.Proofs.Ythmdefgepnkgiaa.Eng
open Go
theorem Mild.refl (w : World) (B : Nat) : Mild w w B := ⟨rfl, rfl, rfl, Nat.le_refl _, fun _ _ _ => rfl⟩
/-- A function leaves; the marks are taken. -/
theorem leaves_ok {P : Program} {F : Fence} {n : Nat} {fn : Func} {tmps : Array Value} {R : Ending → World → Prop} {B : Nat} : ∀ (ds : List Deferred) (w : World),
    (∀ d ∈ ds, ∃ D, d = { target := .collected D, args := #[] } ∧ B ≤ D ∧ w.heap[D]? = some (.deferred (some []))) → ds.Nodup →
    (∀ w', Mild w w' B → ∃ v, (results fn tmps).run P w' = .ok v w' ∧ R (.returned v) w') → LeavesInM F n P fn tmps R ds .returning w
  | [], w, _, _, h => by
    show LeavesIn F n P fn tmps R [] .returning w
    exact h w (Mild.refl w B)
  | d :: ds, w, hd, hn, h => by
    obtain ⟨D, rfl, hB, hD⟩ := hd d (by simp)
    have m : Mild w (w.putObj D (.deferred none)) B := (Mild.put hD (by intro _ _ _ hh; cases hh)).mono hB
    refine ⟨by simp, .inl ⟨D, _, rfl, run_takeDeferred hD, leaves_ok ds _ (fun d' hd' => ?_) (List.nodup_cons.1 hn).2 fun w' m' => h w' (m.trans m')⟩⟩
    obtain ⟨D', rfl, hB', hD'⟩ := hd d' (by simp [hd'])
    refine ⟨D', rfl, hB', ?_⟩
    rw [World.putObj_heap_other]
    · exact hD'
    · rintro rfl
      exact (List.nodup_cons.1 hn).1 hd'
structure TabOK (P : Program) (T : Tab) : Prop where
  fn : ∀ f fn, T.fn f = some fn → P.funcs[f]? = some fn ∧ (fn.name == "runtime.NumGoroutine") = false
  ty : ∀ t i, T.ty t = some i → TyOK P t i
  ext : ∀ f g, T.ext f = some g → ∀ as bs r, T.pre f as bs = true → (g as bs).go some = some r → CallOK P f as bs r
  mix : P.follows .mixedOrders = true
  iter : ∀ f rows xs, T.iter f rows = some xs → IterOK P f rows xs
theorem startT_get : ∀ (as : List AV) (i t : Nat), startT i as t = if i ≤ t then (as[t - i]?).getD (.one false [.u]) else .one false [.u]
  | [], i, t => by simp [startT]
  | v :: r, i, t => by
    simp only [startT]
    by_cases e : t = i
    · subst e; rw [upd_same]; simp
    · rw [upd_ne _ _ e, startT_get r (i + 1) t]
      by_cases h : i + 1 ≤ t
      · rw [if_pos h, if_pos (by omega), show t - i = (t - (i + 1)) + 1 by omega]; rfl
      · rw [if_neg h, if_neg (by omega)]
theorem startB_get : ∀ (bs : List (List CV)) (i b : Nat) (cells : List CV), startB i bs b = some cells → ∃ k, b = passed + (i + k) ∧ bs[k]? = some cells
  | [], i, b, cells, h => by simp [startB] at h
  | c :: r, i, b, cells, h => by
    simp only [startB] at h
    by_cases e : b = passed + i
    · subst e
      rw [upd_same] at h
      exact ⟨0, by simp, by simpa using h⟩
    · rw [upd_ne _ _ e] at h
      obtain ⟨k, h1, h2⟩ := startB_get r (i + 1) b cells h
      exact ⟨k + 1, by omega, by simpa using h2⟩
/-- How a function ends. -/
def finK (X : Ctx) (fn : Func) (nb : Nat) (ax : AX) (s : St) : Option Res :=
  match ax with
  | .exit _ => none
  | _ => finish X fn nb s
/-- A contract from a walk of the body. -/
theorem enter_ok {P : Program} {X : Ctx} (hX : XOK P X) {f : FuncId} {fn : Func} {c : Code} (hf : P.funcs[f]? = some fn) (hname : (fn.name == "runtime.NumGoroutine") = false) (hc : fn.body = some c) (hn : X.n = fn.ntmps) {as : List AV} {bs : List (List CV)} {r : Res} (hal : as.length ≤ fn.ntmps) (hbl : bs.length < passed)
    (hwp : ∀ (E : Ent) (g : Gh) (a : Act) (w : World), E.n = fn.ntmps → E.df = [] → Top E → Rel E g ⟨startT 0 as, startB 0 bs⟩ a w → ∀ Q : Exit → Act → World → Prop,
      (∀ ax s' a' w' g' E', finK X fn bs.length ax s' = some r → Rel E' g' s' a' w' → Inv X E E' → Q (axTo ax) a' w') → c.wpIn (FW none) 0 P Q a w) : CallOK P f as bs r := by
      refine ⟨⟨fn, hf, hname, by rw [hc]; rfl⟩, fun g w vals hent hargs hboxes => ?_⟩
      have hvl := hargs.length
      refine callsIn_FW.1 (callsIn_of_wp_marks (n := 0) (F := FW none) hf hc trivial ?_)
      let E : Ent := ⟨w, g.S, g.who, g.B, fn.ntmps, [], 2 * passed⟩
      have htop : passed + bs.length ≤ E.top := by
        have : bs.length < passed := hbl
        show passed + bs.length ≤ 2 * passed
        omega
      have hB : ∀ k, k < bs.length → E.B0 (passed + k) < E.w0.heap.size := by
        intro k hk
        obtain ⟨_, _, l, q2, et, hh, _⟩ := hboxes k bs[k] (List.getElem?_eq_getElem hk)
        exact (Array.getElem?_eq_some_iff.1 hh).1
      have hno : ∀ b t, E.who0 b ≠ some (.tok t) := fun b t h => by
        obtain ⟨k, _, h2, _⟩ := hent.box b _ h
        cases h2
      have hrel : Rel E g ⟨startT 0 as, startB 0 bs⟩ { tmps := vals.toArray ++ Array.replicate (fn.ntmps - vals.toArray.size) undef, defers := [] } w := by
        refine ⟨⟨rfl, rfl, rfl, Nat.le_refl _, hent.fresh, fun b _ => ⟨fun _ => rfl, rfl⟩, fun b _ _ => rfl, fun b _ _ => rfl, Ext.refl _ _⟩, rfl, by simp [E]; omega, fun t => ?_, fun b cells hb => ?_⟩
        · show RepA g w (startT 0 as t) ((vals.toArray ++ Array.replicate (fn.ntmps - vals.toArray.size) undef).getD t undef)
          rw [startT_get, if_pos (Nat.zero_le _), Nat.sub_zero]
          cases ht : as[t]? with
          | none => exact ⟨_, rfl, trivial⟩
          | some v =>
            obtain ⟨u, hu, hr⟩ := hargs.get t v ht
            have hlt : t < vals.length := (List.getElem?_eq_some_iff.1 hu).1
            have hux : vals[t] = u := (List.getElem?_eq_some_iff.1 hu).2
            rw [Array.getD_eq_getD_getElem?, Array.getElem?_append_left (by simpa using hlt)]
            simp only [Option.getD_some, List.getElem?_toArray, hu]
            exact hr
        · obtain ⟨k, h1, h2⟩ := startB_get bs 0 b cells hb
          rw [Nat.zero_add] at h1
          subst h1
          exact hboxes k cells h2
      have hbx : ∀ k b, E.who0 k = some (.box b) → passed ≤ b := fun k b h => by
        obtain ⟨j, _, h2, _⟩ := hent.box k _ h
        cases h2; exact Nat.le_add_right _ _
      have hTop : Top E := ⟨Nat.le_refl _, fun b o h => by
        obtain ⟨j, h1, h2, _⟩ := hent.box b o h
        exact ⟨passed + j, h2, Nat.le_add_right _ _, Nat.lt_of_lt_of_le (Nat.add_lt_add_left h1 _) htop⟩, fun b hb => (hent.fresh b hb).1⟩
      refine hwp E g _ _ rfl rfl hTop hrel _ fun ax s' a' w' g' E' hk hr hInv => ?_
      have key : finish X fn bs.length s' = some r → LeavesInM (FW none) 0 P fn a'.tmps (Ends g w bs.length r) a'.defers .returning w' := by
        intro hk
        refine leaves_ok (B := E.w0.heap.size) a'.defers w' (fun d hd => ?_) (by rw [hr.df]; exact hInv.nod) fun w2 m => ?_
        · rw [hr.df] at hd
          obtain ⟨D, rfl, h1, h2, h3, h4⟩ := hInv.marks d hd
          exact ⟨D, rfl, h1, (hr.ok.old D h2 h3).trans h4⟩
        · have hr2 : Rel E g' s' ⟨a'.tmps, []⟩ w2 := ⟨m.ok (Nat.le_refl _) (hInv.sub _ _ hr.ok), rfl, hr.sz.trans (hInv.n.trans hn), fun t => RepA.keep m.c (hr.tm t), fun b cells hb => m.box (hr.bx b cells hb)⟩
          obtain ⟨v, h1, g2, h2, h3, h4, h5⟩ := finish_ok hX hr2 hno hbx htop hB hk
          exact ⟨v, h1, v, g2, rfl, h2, h3, h4, h5⟩
      cases ax with
      | exit id => cases hk
      | norm => exact key hk
      | ret => exact key hk
/-- THE LAW of one function's text. -/
theorem evalB_ok {P : Program} {T : Tab} (hT : TabOK P T) {call : FuncId → List AV → List (List CV) → CallK} (hcall : ∀ f as bs r, T.pre f as bs = true → (call f as bs).go some = some r → CallOK P f as bs r) (f : FuncId) (as : List AV) (bs : List (List CV)) (r : Res) (e : evalB T call f as bs = some r) : CallOK P f as bs r := by
  unfold evalB at e
  split at e
  case h_2 => cases e
  rename_i fn hfn
  split at e
  case h_2 => cases e
  rename_i c hc
  obtain ⟨hb, e⟩ := b_true e
  simp only [Bool.and_eq_true] at hb
  have hal := ble_true hb.1
  obtain ⟨hf, hname⟩ := hT.fn f fn hfn
  have hX : XOK P ⟨T.ty, call, fn.ntmps, T.iter, T.mu f, bif plainC c then T.prep f else fun _ => [], T.pre⟩ := ⟨hT.ty, hcall⟩
  refine enter_ok hX hf hname hc rfl hal (Nat.lt_of_succ_le (by simpa [Nat.blt] using hb.2)) fun E g a w hn hdf hTop hrel Q hQ => ?_
  have hP : (∀ id, (⟨T.ty, call, fn.ntmps, T.iter, T.mu f, bif plainC c then T.prep f else fun _ => [], T.pre⟩ : Ctx).prep id = []) ∨ (plainC c = true ∧ E = E ∧ Top E) := by
    cases hpl : plainC c
    · exact .inl fun _ => rfl
    · exact .inr ⟨rfl, rfl, hTop⟩
  refine code_ok hX (fun f rows xs h => hT.iter f rows xs h) hT.mix c (.inl ⟨rfl, hTop⟩) hP (Inv.refl hn (Nat.le_trans hTop.top (Nat.mul_le_mul_right _ (by omega))) hdf) e hrel fun ax s' a' w' g' E' hk hr hInv _ => hQ ax s' a' w' g' E' (by cases ax <;> exact hk) hr hInv
theorem CallK.of_some {o : Option Res} {r : Res} (h : (CallK.of o).go some = some r) : o = some r := by cases o <;> exact h
/-- THE LAW. -/
theorem eval_ok {P : Program} {T : Tab} (hT : TabOK P T) : ∀ (n : Nat) (f : FuncId) (as : List AV) (bs : List (List CV)) (r : Res), T.pre f as bs = true → eval T n f as bs = some r → CallOK P f as bs r
  | 0, _, _, _, _, _, e => by cases e
  | n + 1, f, as, bs, r, hp, e => by
    simp only [eval, evalK] at e
    split at e
    · rename_i g hg
      exact hT.ext f g hg as bs r hp e
    · exact evalB_ok hT (fun f as bs r hp h => eval_ok hT n f as bs r hp h) f as bs r (CallK.of_some e)
end Go.Proofs.Ythmdefgepnkgiaa.Eng
