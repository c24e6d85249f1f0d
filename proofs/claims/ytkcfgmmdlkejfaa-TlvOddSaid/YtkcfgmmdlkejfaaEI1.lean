/- What goes over a thing and all in it. Conditions: the table's rounds keep their promise. -/
import Derived.Test.YtkcfgmmdlkejfaaEI0
import Derived.Test.YtkcfgmmdlkejfaaProg
import Derived.KernelRfl
namespace Go.Proofs.Ytkcfgmmdlkejfaa.Eng
open Go
set_option maxRecDepth 100000
abbrev elt (d : Int) (row : List DV) : List (Bool × List DV) := [(false, [.int .i64 d]), (true, row)]
mutual
def preD (d : Int) : DV → List (List (Bool × List DV))
  | .sl _ xs => preL d xs
  | _ => []
termination_by structural x => x
def preL (d : Int) : List (List DV) → List (List (Bool × List DV))
  | [] => []
  | row :: r => elt d row :: (preR (IntKind.i64.wrap (d + 1)) row ++ preL d r)
termination_by structural x => x
def preR (d : Int) : List DV → List (List (Bool × List DV))
  | [] => []
  | x :: r => preD d x ++ preR d r
termination_by structural x => x
end
mutual
def okD : DV → Bool
  | .sl z xs => Nat.beq z 3 && Nat.ble xs.length 140737488355328 && okL xs
  | _ => false
termination_by structural x => x
def okL : List (List DV) → Bool
  | [] => true
  | row :: r => okR row && okL r
termination_by structural x => x
def okR : List DV → Bool
  | [.int _ _, .ints _ _, k] => okD k
  | _ => false
termination_by structural x => x
end
def sY (d : Int) (row : List DV) (l : Nat) : St := ⟨startT 0 [.one true (row.map .d), .int .i64 d, .c (.yl l)], startB 0 []⟩
/-- What the loop over the parts needs. -/
def sL (d : Int) (l : Nat) (ks : List (List DV)) (j : Int) : St := ⟨upd (upd (upd (upd (upd (fun _ => .one false [.u]) 1 (.int .i64 d)) 2 (.c (.yl l))) 15 (.c (.d (.sl 3 ks)))) 16 (.int .i64 ks.length)) 17 (.int .i64 j), fun _ => none⟩
theorem sL_le {d : Int} {l : Nat} {ks : List (List DV)} {j : Int} {s : St} (h1 : s.tm 1 = .int .i64 d) (h2 : s.tm 2 = .c (.yl l)) (h15 : s.tm 15 = .c (.d (.sl 3 ks))) (h16 : s.tm 16 = .int .i64 ks.length) (h17 : s.tm 17 = .int .i64 j) (t : Nat) :
    (sL d l ks j).tm t = s.tm t ∨ (sL d l ks j).tm t = .one false [.u] := by
  unfold sL
  dsimp only
  by_cases e : t = 17
  · subst e; rw [h17]; exact .inl (upd_same _ _ _)
  simp only [upd_ne _ _ e]
  by_cases e : t = 16
  · subst e; rw [h16]; exact .inl (upd_same _ _ _)
  simp only [upd_ne _ _ e]
  by_cases e : t = 15
  · subst e; rw [h15]; exact .inl (upd_same _ _ _)
  simp only [upd_ne _ _ e]
  by_cases e : t = 2
  · subst e; rw [h2]; exact .inl (upd_same _ _ _)
  simp only [upd_ne _ _ e]
  by_cases e : t = 1
  · subst e; rw [h1]; exact .inl (upd_same _ _ _)
  simp only [upd_ne _ _ e]
  exact .inr trivial
theorem preL_one (d : Int) (t b : DV) (ks : List (List DV)) (ht : ∀ d, preD d t = []) (hb : ∀ d, preD d b = []) : preL d [[t, b, .sl 3 ks]] = elt d [t, b, .sl 3 ks] :: preL (IntKind.i64.wrap (d + 1)) ks := by
  simp [preL, preR, ht, hb, preD]
theorem preL_cons (d : Int) (row : List DV) (r : List (List DV)) : preL d (row :: r) = preL d [row] ++ preL d r := by
  simp [preL]
theorem mix : Go.Proofs.Try.prog.follows .mixedOrders = true := by kernel_rfl
theorem within_fn : Go.Proofs.Try.prog.funcs[40]? = some Go.Proofs.Try.f40 := by kernel_rfl
theorem within_walk {l : Nat} {xs : List (List (Bool × List DV))} {J Jx : Nat → (Nat → Nat) → World → Prop} (Y : YP Go.Proofs.Try.prog l xs J Jx) (t b : DV) (ks : List (List DV)) (d : Int) (ht : ∀ d, preD d t = []) (hb : ∀ d, preD d b = []) (hok : ∀ row ∈ ks, ∃ t b k, row = [t, b, .sl 3 k]) (hbd : ks.length ≤ 140737488355328)
    (IH : ∀ row ∈ ks, ∀ (i n : Nat) (S : Nat → Nat) (w : World) (v : Value), J i S w → (∀ b, w.heap.size ≤ b → S b = 0) → RepX S w (true, row) v → (∀ j x, (preL (IntKind.i64.wrap (d + 1)) [row])[j]? = some x → xs[i + j]? = some x) →
      CallsIn (FW none) n Go.Proofs.Try.prog 40 #[v, .int .i64 (IntKind.i64.wrap (d + 1)), .func (.yield l) #[] #[]] w (PostY J Jx S w (i + (preL (IntKind.i64.wrap (d + 1)) [row]).length)))
    {c : Code} (hc : Go.Proofs.Try.f40.body = some c) {i n : Nat} {S : Nat → Nat} {w : World} {a : Act} {Q : Exit → Act → World → Prop} (hJ : J i S w)
    (hx : ∀ j x, (preL d [[t, b, .sl 3 ks]])[j]? = some x → xs[i + j]? = some x)
    (hr : Rel (entY w S 28 []) (bare S) (sY d [t, b, .sl 3 ks] l) a w)
    (hQ : ∀ a' w' v, (results Go.Proofs.Try.f40 a'.tmps).run Go.Proofs.Try.prog w' = .ok v w' → a'.defers = [] → PostY J Jx S w (i + (preL d [[t, b, .sl 3 ks]]).length) (.returned v) w' → Q .ret a' w') :
    c.wpIn (FW none) n Go.Proofs.Try.prog Q a w := by
  obtain rfl := Option.some.inj hc
  refine wpIn_seq ?_
  refine region_okIn (R := St) (XY_ok _ 28) rfl mix (s := sY d [t, b, .sl 3 ks] l) (K := some) hr (by rfl) ?_ (by rfl)
  intro s1 a1 w1 g1 hs hr1
  obtain rfl := Option.some.inj hs
  obtain ⟨hr1, hg1, hx1⟩ := frz_ok hr1
  have hJ1 := Y.gJ _ _ _ _ _ hJ hg1
  refine wpIn_seq (wpIn_seq ?_)
  refine wpIn_region_list ?_
  refine steps_part (XY_ok _ 28) rfl (l := [_, _, _]) (rest := [_, _]) ?_ hr1 (by rfl) ?_
  · intro o ho
    simp only [List.mem_cons, List.not_mem_nil, or_false] at ho
    rcases ho with rfl | rfl | rfl <;> rfl
  intro a2 w2 g2 hr2
  obtain ⟨hr2, hg2, hx2⟩ := frz_ok hr2
  have hJ2 := Y.gJ _ _ _ _ _ hJ1 hg2
  refine list_one (by rfl) ?_
  have h9 := evC_ok hr2 (x := .tmp 9) (c := .yl l) (by rfl)
  have h10 := evC_ok hr2 (x := .tmp 10) (c := .d (.int .i64 d)) (by rfl)
  have h11 := ev_ok (X := XY Go.Proofs.Try.prog 28) hr2 (d := 0) (T := 0) (x := .tmp 11) (r := .one true [.d t, .d b, .d (.sl 3 ks)]) (by rfl)
  obtain ⟨l11, e11, a11⟩ := h11
  have hx0 : xs[i]? = some (elt d [t, b, .sl 3 ks]) := by have := hx 0 (elt d [t, b, .sl 3 ks]) rfl; simpa using this
  refine yield_op (l := l) (vals := [a2.eval (.tmp 10), a2.eval (.tmp 11)]) rfl rfl h9 (by simp) (Y.y (n - 1) i _ _ _ _ hx0 hJ2 (.cons ⟨_, rfl, h10⟩ (.cons ⟨l11, e11, ?_⟩ .nil))) ?_
  · have := a11
    exact All2.of_get (by have := a11.length; simpa using this) fun j x u hj hu => by
      obtain ⟨u', hu', hk⟩ := a11.get j (.d x) (by
        have : ([t, b, .sl 3 ks] : List DV).map CV.d = [.d t, .d b, .d (.sl 3 ks)] := rfl
        rw [← this, List.getElem?_map, hj]; rfl)
      rw [hu] at hu'
      obtain rfl := Option.some.inj hu'
      exact hk.1
  rintro e3 w3 ⟨hsz3, ⟨rfl, hJ3, ex3⟩ | ⟨rfl, hJ3⟩⟩
  rotate_left
  · -- broken off
    refine ⟨_, rfl, ?_⟩
    have hr3 := (rel_any (w := w3) (n := 28) (a := a2) hr2.df hr2.sz).put (some 12) rfl (r := .bool false) (v := .bool false) ⟨_, rfl, .bool false⟩
    refine steps_part (XY_ok _ 28) rfl (l := [_]) (rest := []) ?_ hr3 (by rfl) ?_
    · intro o ho
      obtain rfl := List.mem_singleton.1 ho
      rfl
    intro a4 w4 g4 hr4
    refine wpIn_cond (t := true) (evB_ok hr4 (by rfl)) ?_
    refine wpIn_seq (region_okIn (R := St) (XY_ok _ 28) rfl mix (K := some) hr4 (by rfl) ?_ (by rfl))
    intro s5 a5 w5 g5 hs5 hr5
    obtain rfl := Option.some.inj hs5
    refine wpIn_ret ?_
    have hv : a5.tmps.getD 6 undef = .bool false := by
      have := evC_ok hr5 (x := .tmp 6) (c := .d (.bool false)) (by rfl)
      generalize hu : a5.eval (.tmp 6) = u at this
      cases this
      exact hu
    exact hQ a5 w5 (.bool false) (by rw [results_one (t := 6) rfl, hv]) hr5.df (.inr ⟨rfl, _, _, Y.gX _ _ _ _ _ hJ3 (grow_of hr5.ok _)⟩)
  -- on
  have hf3 : ∀ b, w3.heap.size ≤ b → frzS (frzS S g1 w w1) g2 w1 w2 b = 0 := fun b hb => hg2.2.2 b (Nat.le_trans hsz3 hb)
  have hr3 := (yield_go hr2 ex3 hf3).put (some 12) rfl (r := .bool true) (v := .bool true) ⟨_, rfl, .bool true⟩
  refine ⟨_, rfl, ?_⟩
  refine steps_part (XY_ok _ 28) rfl (l := [_]) (rest := []) ?_ hr3 (by rfl) ?_
  · intro o ho
    obtain rfl := List.mem_singleton.1 ho
    rfl
  intro a4 w4 g4 hr4
  refine wpIn_cond (t := false) (evB_ok hr4 (by rfl)) ?_
  refine wpIn_skip ?_
  refine wpIn_seq (wpIn_seq (region_okIn (R := St) (XY_ok _ 28) rfl mix (K := some) hr4 (by rfl) ?_ (by rfl)))
  intro s5 a5 w5 g5 hs5 hr5
  obtain rfl := Option.some.inj hs5
  obtain ⟨hr5n, hg5, hx5⟩ := frz_ok hr5
  clear hr5
  have hr5 := hr5n
  clear hr5n
  have hJ5 := Y.gJ _ _ _ _ _ hJ3 hg5
  have hr6 := rel_weak (s' := sL d l ks 0) hr5 (sL_le (by rfl) (by rfl) (by rfl) (by rfl) (by rfl)) (fun b cells hh => by cases hh)
  have hlen : (preL d [[t, b, .sl 3 ks]]).length = 1 + (preL (IntKind.i64.wrap (d + 1)) ks).length := by rw [preL_one d t b ks ht hb]; simp; omega
  have hxk : ∀ j x, (preL (IntKind.i64.wrap (d + 1)) ks)[j]? = some x → xs[i + 1 + j]? = some x := fun j x hj => by
    have := hx (j + 1) x (by rw [preL_one d t b ks ht hb]; simpa using hj)
    rw [← this]; congr 1; omega
  refine wpIn_block (wpIn_loop_rounds (ks.length + 1) ?_)
  have hf5 : ∀ b, w5.heap.size ≤ b → frzS (frzS (frzS S g1 w w1) g2 w1 w2) g5 w3 w5 b = 0 := hg5.2.2
  have hext : Ext S w (frzS (frzS (frzS S g1 w w1) g2 w1 w2) g5 w3 w5) w5 := ((hx1.trans hx2).trans ex3).trans hx5
  have hend : i + (preL d [[t, b, .sl 3 ks]]).length = (i + 1) + (preL (IntKind.i64.wrap (d + 1)) ks).length := by rw [hlen]; omega
  rw [hend] at hQ
  clear hend hlen hg5 hx5 hr5 hr4 hr3 hf3 ex3 hJ3 hr2 hJ2 hg2 hx2 hr1 hJ1 hg1 hx1 hx0 h9 h10 hr hJ hx
  generalize hN : (i + 1) + (preL (IntKind.i64.wrap (d + 1)) ks).length = N at hQ
  obtain ⟨j, hj0⟩ : ∃ j : Nat, j = 0 := ⟨0, rfl⟩
  obtain ⟨rest, hrest⟩ : ∃ rest, ks.drop j = rest := ⟨_, rfl⟩
  have hks : ks = rest := by rw [← hrest, hj0]; rfl
  have hN' : (i + 1) + (preL (IntKind.i64.wrap (d + 1)) rest).length = N := by rw [← hks]; exact hN
  have hxk' : ∀ j x, (preL (IntKind.i64.wrap (d + 1)) rest)[j]? = some x → xs[i + 1 + j]? = some x := by rw [← hks]; exact hxk
  have hr7 : Rel (entY w5 (frzS (frzS (frzS S g1 w w1) g2 w1 w2) g5 w3 w5) 28 []) (bare (frzS (frzS (frzS S g1 w w1) g2 w1 w2) g5 w3 w5)) (sL d l ks (j : Int)) a5 w5 := by rw [hj0]; exact hr6
  have hm : ks.length + 1 = rest.length + 1 := by rw [← hks]
  rw [hm]
  clear hm hr6 hxk hN hj0 hks hc
  generalize frzS (frzS (frzS S g1 w w1) g2 w1 w2) g5 w3 w5 = S6 at hJ5 hf5 hext hr7
  generalize i + 1 = i' at hJ5 hxk' hN'
  induction rest generalizing j i' S6 w5 a5 with
  | nil =>
    rw [List.length_nil, roundsIn_succ]
    refine wpIn_seq (region_okIn (R := St) (XY_ok _ 28) rfl mix (K := some) hr7 (by rfl) ?_ (by rfl))
    intro s8 a8 w8 g8 hs8 hr8
    obtain rfl := Option.some.inj hs8
    have hj : ks.length ≤ j := by simpa using hrest
    have hlt : ltI (j : Int) ks.length = false := by rw [ltI_eq]; exact decide_eq_false (by omega)
    refine wpIn_seq (wpIn_cond (t := false) (by have := evB_ok hr8 (x := .tmp 18) (b := ltI j ks.length) (by rfl); rw [hlt] at this; exact this) ?_)
    refine wpIn_exit ?_
    obtain ⟨hr8, hg8, hx8⟩ := frz_ok hr8
    have hJ8 := Y.gJ _ _ _ _ _ hJ5 hg8
    change Code.wpIn _ _ _ (Code.seq _ _) _ _ _
    refine wpIn_seq (region_okIn (R := St) (XY_ok _ 28) rfl mix (K := some) hr8 (by rfl) ?_ (by rfl))
    intro s9 a9 w9 g9 hs9 hr9
    obtain rfl := Option.some.inj hs9
    refine wpIn_ret ?_
    have hv : a9.tmps.getD 6 undef = .bool true := by
      have := evC_ok hr9 (x := .tmp 6) (c := .d (.bool true)) (by rfl)
      generalize hu : a9.eval (.tmp 6) = u at this
      cases this
      exact hu
    obtain ⟨hr9, hg9, hx9⟩ := frz_ok hr9
    have hJ9 := Y.gJ _ _ _ _ _ hJ8 hg9
    refine hQ a9 w9 (.bool true) (by rw [results_one (t := 6) rfl, hv]) hr9.df (.inl ⟨rfl, _, ?_, (hext.trans hx8).trans hx9, hg9.2.2⟩)
    rw [← hN']
    exact hJ9
  | cons row rest ihr =>
    rw [List.length_cons, roundsIn_succ]
    refine wpIn_seq (region_okIn (R := St) (XY_ok _ 28) rfl mix (K := some) hr7 (by rfl) ?_ (by rfl))
    intro s8 a8 w8 g8 hs8 hr8
    obtain rfl := Option.some.inj hs8
    have hjlt : j < ks.length := by
      have := congrArg List.length hrest
      simp at this
      omega
    have hrow : ks[j]? = some row := by
      have := congrArg (fun l => l[0]?) hrest
      simpa using this
    have hin : row ∈ ks := List.mem_of_getElem? hrow
    obtain ⟨t', b', k', rfl⟩ := hok row hin
    have hlt : ltI (j : Int) ks.length = true := by rw [ltI_eq]; exact decide_eq_true (by omega)
    refine wpIn_seq (wpIn_cond (t := true) (by have := evB_ok hr8 (x := .tmp 18) (b := ltI j ks.length) (by rfl); rw [hlt] at this; exact this) ?_)
    refine wpIn_skip ?_
    obtain ⟨hr8, hg8, hx8⟩ := frz_ok hr8
    have hJ8 := Y.gJ _ _ _ _ _ hJ5 hg8
    change Code.wpIn _ _ _ (Code.seq _ _) _ _ _
    have hnth : ∀ {R : Type} (K : List DV → Option R), nth ks (j : Int) K = K [t', b', .sl 3 k'] := fun K => by
      unfold nth
      have : leI 0 (j : Int) = true := by rw [leI_eq]; exact decide_eq_true (by omega)
      rw [this]
      simp only [cond_true, Int.toNat_natCast, hrow]
    refine wpIn_seq (wpIn_block (wpIn_seq (region_okIn (R := St) (XY_ok _ 28) rfl mix (K := some) hr8 (by rfl) ?_ (by show nth ks (j : Int) _ = some _; rw [hnth]; rfl))))
    intro s9 a9 w9 g9 hs9 hr9
    obtain rfl := Option.some.inj hs9
    obtain ⟨hr9, hg9, hx9⟩ := frz_ok hr9
    have hJ9 := Y.gJ _ _ _ _ _ hJ8 hg9
    refine wpIn_seq (wpIn_region_list ?_)
    refine steps_part (XY_ok _ 28) rfl (l := [_, _, _, _]) (rest := [_, _]) ?_ hr9 (by rfl) ?_
    · intro o ho
      simp only [List.mem_cons, List.not_mem_nil, or_false] at ho
      rcases ho with rfl | rfl | rfl | rfl <;> rfl
    intro a10 w10 g10 hr10
    obtain ⟨hr10, hg10, hx10⟩ := frz_ok hr10
    have hJ10 := Y.gJ _ _ _ _ _ hJ9 hg10
    refine list_one (by rfl) ?_
    have h21 := ev_ok (X := XY Go.Proofs.Try.prog 28) hr10 (d := 0) (T := 0) (x := .tmp 21) (r := .one true [.d t', .d b', .d (.sl 3 k')]) (by rfl)
    have h23 := evC_ok hr10 (x := .tmp 23) (c := .d (.int .i64 (IntKind.i64.wrap (d + 1)))) (by rfl)
    have h24 := evC_ok hr10 (x := .tmp 24) (c := .yl l) (by rfl)
    obtain ⟨l21, e21, a21⟩ := h21
    have hrx : RepX _ w10 (true, [t', b', .sl 3 k']) (a10.eval (.tmp 21)) := ⟨l21, e21, All2.of_get (by have := a21.length; simpa using this) fun j x u hj hu => by
      obtain ⟨u', hu', hk⟩ := a21.get j (.d x) (by
        have : ([t', b', .sl 3 k'] : List DV).map CV.d = [.d t', .d b', .d (.sl 3 k')] := rfl
        rw [← this, List.getElem?_map, hj]; rfl)
      rw [hu] at hu'
      obtain rfl := Option.some.inj hu'
      exact hk.1⟩
    have hcall := IH _ hin i' (n - 1) _ _ _ hJ10 hg10.2.2 hrx (fun j x hj => hxk' j x (by rw [preL_cons, List.getElem?_append_left (List.getElem?_eq_some_iff.1 hj).1]; exact hj))
    refine fcall_op (f := 40) (cv := []) (vals := [a10.eval (.tmp 21), a10.eval (.tmp 23), a10.eval (.tmp 24)]) rfl rfl rfl (by simp) ⟨_, within_fn, rfl, rfl⟩ (by
      rw [h24]
      have hv23 : a10.eval (.tmp 23) = .int .i64 (IntKind.i64.wrap (d + 1)) := by
        generalize a10.eval (.tmp 23) = u at h23
        cases h23; rfl
      rw [hv23]
      exact hcall) ?_
    rintro e11 w11 (⟨rfl, S11, hJ11, ex11, hf11⟩ | ⟨rfl, i11, S11, hJ11⟩)
    rotate_left
    · refine ⟨_, rfl, ?_⟩
      have hr11 := (rel_any (w := w11) (n := 28) (a := a10) hr10.df hr10.sz).put (some 25) rfl (r := .bool false) (v := .bool false) ⟨_, rfl, .bool false⟩
      refine steps_part (XY_ok _ 28) rfl (l := [_]) (rest := []) ?_ hr11 (by rfl) ?_
      · intro o ho
        obtain rfl := List.mem_singleton.1 ho
        rfl
      intro a12 w12 g12 hr12
      refine wpIn_cond (t := true) (evB_ok hr12 (by rfl)) ?_
      refine wpIn_seq (region_okIn (R := St) (XY_ok _ 28) rfl mix (K := some) hr12 (by rfl) ?_ (by rfl))
      intro s13 a13 w13 g13 hs13 hr13
      obtain rfl := Option.some.inj hs13
      refine wpIn_ret ?_
      have hv : a13.tmps.getD 6 undef = .bool false := by
        have := evC_ok hr13 (x := .tmp 6) (c := .d (.bool false)) (by rfl)
        generalize hu : a13.eval (.tmp 6) = u at this
        cases this
        exact hu
      exact hQ a13 w13 (.bool false) (by rw [results_one (t := 6) rfl, hv]) hr13.df (.inr ⟨rfl, _, _, Y.gX _ _ _ _ _ hJ11 (grow_of hr13.ok _)⟩)
    have hr11 := (yield_go hr10 ex11 hf11).put (some 25) rfl (r := .bool true) (v := .bool true) ⟨_, rfl, .bool true⟩
    refine ⟨_, rfl, ?_⟩
    refine steps_part (XY_ok _ 28) rfl (l := [_]) (rest := []) ?_ hr11 (by rfl) ?_
    · intro o ho
      obtain rfl := List.mem_singleton.1 ho
      rfl
    intro a12 w12 g12 hr12
    refine wpIn_cond (t := false) (evB_ok hr12 (by rfl)) ?_
    refine wpIn_skip ?_
    obtain ⟨hr12, hg12, hx12⟩ := frz_ok hr12
    have hJ12 := Y.gJ _ _ _ _ _ hJ11 hg12
    refine region_okIn (R := St) (XY_ok _ 28) rfl mix (K := some) hr12 (by rfl) ?_ (by rfl)
    intro s13 a13 w13 g13 hs13 hr13
    obtain rfl := Option.some.inj hs13
    obtain ⟨hr13, hg13, hx13⟩ := frz_ok hr13
    have hJ13 := Y.gJ _ _ _ _ _ hJ12 hg13
    have hw : IntKind.i64.wrap ((j : Int) + 1) = ((j + 1 : Nat) : Int) := by rw [IntKind.wrap_i64]; omega
    have hd1 : ks.drop (j + 1) = rest := by
      rw [← List.drop_drop, hrest]; rfl
    refine ihr a13 w13 (j + 1) hd1 _ hg13.2.2 (((((hext.trans hx8).trans hx9).trans hx10).trans ex11).trans (hx12.trans hx13)) (rel_weak (s' := sL d l ks ((j + 1 : Nat) : Int)) hr13 (sL_le (by rfl) (by rfl) (by rfl) (by rfl) (by rw [← hw]; rfl)) (fun b cells hh => by cases hh)) _ hJ13 (fun j x hj => by
      have := hxk' ((preL (IntKind.i64.wrap (d + 1)) [[t', b', .sl 3 k']]).length + j) x (by rw [preL_cons, List.getElem?_append_right (Nat.le_add_right _ _), Nat.add_sub_cancel_left]; exact hj)
      rw [← this, Nat.add_assoc]) (by rw [← hN', preL_cons (r := rest), List.length_append, Nat.add_assoc])
theorem okL_mem : ∀ {ks : List (List DV)}, okL ks = true → ∀ row ∈ ks, okR row = true
  | [], _, row, h => by cases h
  | k :: ks, hk, row, h => by
    simp only [okL, Bool.and_eq_true] at hk
    rcases List.mem_cons.1 h with rfl | h
    · exact hk.1
    · exact okL_mem hk.2 row h
theorem okR_shape {row : List DV} (h : okR row = true) : ∃ k t k' b ks, row = [.int k t, .ints k' b, .sl 3 ks] ∧ ks.length ≤ 140737488355328 ∧ okL ks = true := by
  unfold okR at h
  split at h
  · rename_i k t k' b c
    cases c with
    | sl z ks =>
      simp only [okD, Bool.and_eq_true] at h
      obtain ⟨⟨h1, h2⟩, h3⟩ := h
      obtain rfl := beq_true h1
      exact ⟨k, t, k', b, ks, rfl, ble_true h2, h3⟩
    | _ => simp [okD] at h
  · cases h
theorem within_ok {l : Nat} {xs : List (List (Bool × List DV))} {J Jx : Nat → (Nat → Nat) → World → Prop} (Y : YP Go.Proofs.Try.prog l xs J Jx) : ∀ (m : Nat) (row : List DV), SizeOf.sizeOf row < m → okR row = true → ∀ (d : Int) (i n : Nat) (S : Nat → Nat) (w : World) (v : Value), J i S w → (∀ b, w.heap.size ≤ b → S b = 0) → RepX S w (true, row) v →
    (∀ j x, (preL d [row])[j]? = some x → xs[i + j]? = some x) → CallsIn (FW none) n Go.Proofs.Try.prog 40 #[v, .int .i64 d, .func (.yield l) #[] #[]] w (PostY J Jx S w (i + (preL d [row]).length))
  | 0, row, h, _ => by omega
  | m + 1, row, hm, hok => by
    intro d i n S w v hJ hS hrep hx
    obtain ⟨k, t, k', b, ks, rfl, hbd, hks⟩ := okR_shape hok
    obtain ⟨c, hc⟩ : ∃ c, Go.Proofs.Try.f40.body = some c := ⟨_, rfl⟩
    refine callsIn_of_wp_marks (F := FW none) within_fn hc trivial ?_
    have hr := start_rel (n := 28) hS (avs := [.one true (([.int k t, .ints k' b, .sl 3 ks] : List DV).map .d), .int .i64 d, .c (.yl l)]) (vals := [v, .int .i64 d, .func (.yield l) #[] #[]]) (.cons (RepX.rep (g := bare S) hrep) (.cons ⟨_, rfl, .int _ _⟩ (.cons ⟨_, rfl, rfl⟩ .nil))) (by simp)
    refine within_walk Y (.int k t) (.ints k' b) ks d (fun _ => rfl) (fun _ => rfl) (fun row hrow => ?_) hbd (fun row hrow i n S w v hJ hS hrep hx => within_ok Y m row ?_ (okL_mem hks row hrow) _ i n S w v hJ hS hrep hx) hc hJ hx hr (fun a' w' v' h1 h2 h3 => ?_)
    · obtain ⟨k, t, k', b, ks', rfl, _, _⟩ := okR_shape (okL_mem hks row hrow)
      exact ⟨_, _, _, rfl⟩
    · have h1 := List.sizeOf_lt_of_mem hrow
      have h2 : SizeOf.sizeOf ks < SizeOf.sizeOf ([.int k t, .ints k' b, .sl 3 ks] : List DV) := by simp; omega
      omega
    · show LeavesInM _ _ _ _ _ _ a'.defers .returning w'
      rw [h2]
      exact ⟨v', h1, h3⟩
end Go.Proofs.Ytkcfgmmdlkejfaa.Eng
