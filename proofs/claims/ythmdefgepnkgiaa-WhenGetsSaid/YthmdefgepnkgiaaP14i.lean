/- Things as times, plainly: both texts tell the same of any thing. Conditions: bytes. -/
import Derived.Test.YthmdefgepnkgiaaP14h
namespace Go.Proofs.Ythmdefgepnkgiaa.Eng
open Go
set_option linter.unusedSimpArgs false
set_option maxRecDepth 100000
theorem fail_dec : (some fail2 : Option Res).bind ref14_Get_dec = some (0, false) := rfl
theorem enc_dec (r : Int × Bool) : (some (enc2 r) : Option Res).bind ref14_Get_dec = some r := rfl
theorem rTail_dec (M N : Nat) (hM : 10001 < M) (y a : Int) (b : List Int) (c : List (List DV)) (f0 f1 f2 f3 f4 : Int) (hb : b.length ≤ 1000) (hy : y ≤ 9999) (h0 : f0 ≤ 99) (h1 : -1 ≤ f1 ∧ f1 ≤ 99) (h2 : -1 ≤ f2 ∧ f2 ≤ 99) (h3 : -1 ≤ f3 ∧ f3 ≤ 99) (h4 : -1 ≤ f4 ∧ f4 ≤ 99) :
    (rTail M N y a b c f0 f1 f2 f3 f4).bind ref14_Get_dec = some (bif ltI y 1950 || ltI f0 1 || ltI 12 f0 then (0, false) else chk (unixP y f0 f1 f2 f3 f4) a b) := by
  rw [rTail_eq M N hM y a b c f0 f1 f2 f3 f4 hb hy h0 h1 h2 h3 h4]
  cases (ltI y 1950 || ltI f0 1 || ltI 12 f0) <;> rfl
theorem list13 {b : List Int} (h : b.length = 13) : ∃ x0 x1 x2 x3 x4 x5 x6 x7 x8 x9 x10 x11 x12, b = [x0, x1, x2, x3, x4, x5, x6, x7, x8, x9, x10, x11, x12] := by
  match b, h with
  | [x0, x1, x2, x3, x4, x5, x6, x7, x8, x9, x10, x11, x12], _ => exact ⟨_, _, _, _, _, _, _, _, _, _, _, _, _, rfl⟩
theorem list15 {b : List Int} (h : b.length = 15) : ∃ x0 x1 x2 x3 x4 x5 x6 x7 x8 x9 x10 x11 x12 x13 x14, b = [x0, x1, x2, x3, x4, x5, x6, x7, x8, x9, x10, x11, x12, x13, x14] := by
  match b, h with
  | [x0, x1, x2, x3, x4, x5, x6, x7, x8, x9, x10, x11, x12, x13, x14], _ => exact ⟨_, _, _, _, _, _, _, _, _, _, _, _, _, _, _, rfl⟩
def Shape (tag : Int) (b : List Int) (c : List (List DV)) (r : Int × Bool) : Prop := r = (0, false) ∨ (c = [] ∧ b ≠ [] ∧ ∃ t, r = chk t tag b)
theorem rGet_shape (M N : Nat) (hM : 10001 < M) (tag : Int) (b : List Int) (c : List (List DV)) : ∃ r, ref14_Get_F M N tag b c = some r ∧ Shape tag b c r := by
  have hf : ∀ o : Option Res, o = some fail2 → ∃ r, o.bind ref14_Get_dec = some r ∧ Shape tag b c r := fun o ho => ⟨(0, false), by rw [ho]; rfl, .inl rfl⟩
  by_cases h24 : tag = 24
  · subst h24
    by_cases hc : c = []
    · subst hc
      by_cases hl : b.length = 15
      · obtain ⟨x0, x1, x2, x3, x4, x5, x6, x7, x8, x9, x10, x11, x12, x13, x14, rfl⟩ := list15 hl
        have h4 := numv4 x0 x1 x2 x3
        have h5 := numv2 x4 x5
        have h6 := numv2 x6 x7
        have h7 := numv2 x8 x9
        have h8 := numv2 x10 x11
        have h9 := numv2 x12 x13
        rw [rGet15 M N hM, rTail_dec M N hM _ _ _ _ _ _ _ _ _ (by simp) h4.2 h5.2 h6 h7 h8 h9]
        refine ⟨_, rfl, ?_⟩
        generalize (ltI (numv [x0, x1, x2, x3] 0) 1950 || ltI (numv [x4, x5] 0) 1 || ltI 12 (numv [x4, x5] 0)) = q
        cases q
        · exact .inr ⟨rfl, by simp, _, rfl⟩
        · exact .inl rfl
      · unfold ref14_Get_F ref14_Get_D ref14_Get_B
        have e1 : eqI (b.length : Int) 15 = false := by rw [eqI_dec]; exact decide_eq_false (by omega)
        refine hf _ ?_
        rw [e1]
        rfl
    · unfold ref14_Get_F ref14_Get_D ref14_Get_B
      have hpos : 0 < c.length := List.length_pos_iff.2 hc
      have e1 : ltI 0 ((c.length : Nat) : Int) = true := ltI_true (by omega)
      refine hf _ ?_
      rw [e1]
      rfl
  · have e24 : eqI tag 24 = false := by rw [eqI_dec]; exact decide_eq_false h24
    by_cases h23 : tag = 23
    · subst h23
      by_cases hc : c = []
      · subst hc
        by_cases hl : b.length = 13
        · obtain ⟨x0, x1, x2, x3, x4, x5, x6, x7, x8, x9, x10, x11, x12, rfl⟩ := list13 hl
          have h4 := numv2 x0 x1
          have h5 := numv2 x2 x3
          have h6 := numv2 x4 x5
          have h7 := numv2 x6 x7
          have h8 := numv2 x8 x9
          have h9 := numv2 x10 x11
          have hy : (bif ltI (numv [x0, x1] 0 + 1900) 1950 then numv [x0, x1] 0 + 1900 + 100 else numv [x0, x1] 0 + 1900) ≤ 9999 := by
            cases ltI (numv [x0, x1] 0 + 1900) 1950
            · show numv [x0, x1] 0 + 1900 ≤ 9999; omega
            · show numv [x0, x1] 0 + 1900 + 100 ≤ 9999; omega
          rw [rGet13 M N hM, rTail_dec M N hM _ _ _ _ _ _ _ _ _ (by simp) hy h5.2 h6 h7 h8 h9]
          refine ⟨_, rfl, ?_⟩
          generalize (ltI (bif ltI (numv [x0, x1] 0 + 1900) 1950 then numv [x0, x1] 0 + 1900 + 100 else numv [x0, x1] 0 + 1900) 1950 || ltI (numv [x2, x3] 0) 1 || ltI 12 (numv [x2, x3] 0)) = q
          cases q
          · exact .inr ⟨rfl, by simp, _, rfl⟩
          · exact .inl rfl
        · unfold ref14_Get_F ref14_Get_D ref14_Get_B
          have e1 : eqI (b.length : Int) 13 = false := by rw [eqI_dec]; exact decide_eq_false (by omega)
          refine hf _ ?_
          rw [e1]
          rfl
      · unfold ref14_Get_F ref14_Get_D ref14_Get_B
        have hpos : 0 < c.length := List.length_pos_iff.2 hc
        have e1 : ltI 0 ((c.length : Nat) : Int) = true := ltI_true (by omega)
        refine hf _ ?_
        rw [e1]
        rfl
    · have e23 : eqI tag 23 = false := by rw [eqI_dec]; exact decide_eq_false h23
      unfold ref14_Get_F ref14_Get_D ref14_Get_B
      refine hf _ ?_
      rw [e24, e23]
      rfl
theorem rGet7 (M N : Nat) (hM : 10001 < M) (c a m d h i s z : Int) : ref14_Get_F M N 24 (flat [c, a, m, d, h, i, s] ++ [z]) [] = (rTail M N (numv (tw c ++ tw a) 0) 24 (flat [c, a, m, d, h, i, s] ++ [z]) [] (numv (tw m) 0) (numv (tw d) 0) (numv (tw h) 0) (numv (tw i) 0) (numv (tw s) 0)).bind ref14_Get_dec := rGet15 M N hM _ _ _ _ _ _ _ _ _ _ _ _ _ _ _
theorem rGet6 (M N : Nat) (hM : 10001 < M) (a m d h i s z : Int) : ref14_Get_F M N 23 (flat [a, m, d, h, i, s] ++ [z]) [] = (rTail M N (bif ltI (numv (tw a) 0 + 1900) 1950 then numv (tw a) 0 + 1900 + 100 else numv (tw a) 0 + 1900) 23 (flat [a, m, d, h, i, s] ++ [z]) [] (numv (tw m) 0) (numv (tw d) 0) (numv (tw h) 0) (numv (tw i) 0) (numv (tw s) 0)).bind ref14_Get_dec := rGet13 M N hM _ _ _ _ _ _ _ _ _ _ _ _ _
theorem chk_time (t : Int) : chk t (timeX t).1 (timeX t).2.1 = (t, true) := by
  unfold chk
  rw [eqS_self, eqI_dec, decide_eq_true rfl]
  rfl
theorem rGet_time (M N : Nat) (hM : 10001 < M) (t : Int) (ht : okT t = true) : ref14_Get_F M N (timeX t).1 (timeX t).2.1 (timeX t).2.2 = some (t, true) := by
  obtain ⟨Y, J, h1, h2⟩ := dateX_ok ht
  have hs := small6 h1
  have hu := unix_date ht h1
  have hx : timeX t = timeN (dateR t Y J) := by unfold timeX; rw [ht, h2]; rfl
  have hy0 := h1.y0
  have hy1 := h1.y1
  have hJ := h1.j
  have hyy : (dateR t Y J).1 = Y := rfl
  have hmm : (dateR t Y J).2.1 = ((J + 1 : Nat) : Int) := rfl
  have hchk : ∀ tag body, tag = (timeX t).1 → body = (timeX t).2.1 → chk t tag body = (t, true) := by
    rintro tag body rfl rfl
    exact chk_time t
  have hf := timeN_flat _ hs
  have e1 := numv_tw _ hs.m
  have e2 := numv_tw _ hs.d
  have e3 := numv_tw _ hs.h
  have e4 := numv_tw _ hs.i
  have e5 := numv_tw _ hs.s
  have a2 := hs.d; have a3 := hs.h; have a4 := hs.i; have a5 := hs.s; have a1 := hs.m
  rw [hyy] at hu
  by_cases h50 : 2050 ≤ Y
  · rw [hyy, leI_true h50, cond_true] at hf
    rw [hx, hf]
    simp only
    rw [rGet7 M N hM, e1, e2, e3, e4, e5, numv_tw2 _ _ (by omega) (by omega)]
    have e : Y / 100 * 100 + Y % 100 = Y := by omega
    rw [e, rTail_dec M N hM _ _ _ _ _ _ _ _ _ (by show (15 : Nat) ≤ 1000; omega) (by omega) a1.2 (by omega) (by omega) (by omega) (by omega), hu, hchk 24 _ (by rw [hx, hf]) (by rw [hx, hf]), ltI_false (by omega), hmm, ltI_false (by omega), ltI_false (by omega)]
    rfl
  · rw [hyy, leI_false h50, cond_false] at hf
    rw [hx, hf]
    simp only
    rw [rGet6 M N hM, e1, e2, e3, e4, e5, numv_tw _ (show 0 ≤ Y % 100 ∧ Y % 100 ≤ 99 by omega)]
    have e : (bif ltI (Y % 100 + 1900) 1950 then Y % 100 + 1900 + 100 else Y % 100 + 1900) = Y := by
      by_cases h5 : Y % 100 + 1900 < 1950
      · rw [ltI_true h5]; show Y % 100 + 1900 + 100 = Y; omega
      · rw [ltI_false h5]; show Y % 100 + 1900 = Y; omega
    rw [e, rTail_dec M N hM _ _ _ _ _ _ _ _ _ (by show (13 : Nat) ≤ 1000; omega) (by omega) a1.2 (by omega) (by omega) (by omega) (by omega), hu, hchk 23 _ (by rw [hx, hf]) (by rw [hx, hf]), ltI_false (by omega), hmm, ltI_false (by omega), ltI_false (by omega)]
    rfl
/-! ### The program's side, of any thing -/
theorem nuL_gen {R : Type} (k0 k1 : List Int → Option R) : ∀ (l c : List Int), l.length % 2 = 0 → c.length + l.length ≤ 100000 → (∃ ns, (∀ n ∈ ns, 0 ≤ n ∧ n ≤ 99) ∧ l = flat ns ∧ nuL k0 k1 (chunk2 l) c = k0 (c ++ ns)) ∨ ∃ c', nuL k0 k1 (chunk2 l) c = k1 c'
  | [], c, _, _ => .inl ⟨[], by simp, rfl, by simp [chunk2, nuL]⟩
  | [_], _, h, _ => by simp at h
  | x :: y :: l, c, h, hl => by
    simp only [List.length_cons] at h hl
    have e0 : nth [x, y] 0 = fun (K : Int → Option R) => K x := by funext K; rfl
    have e1 : nth [x, y] 1 = fun (K : Int → Option R) => K y := by funext K; rfl
    have e : nuL k0 k1 (chunk2 (x :: y :: l)) c = nu1 k1 (nuL k0 k1 (chunk2 l)) [x, y] c := rfl
    rw [e]
    unfold nu1
    simp only [e0, e1]
    by_cases h1 : x < 48
    · exact .inr ⟨c, by rw [ltI_true h1]; rfl⟩
    by_cases h2 : 57 < x
    · exact .inr ⟨c, by rw [ltI_false h1, ltI_true h2]; rfl⟩
    by_cases h3 : y < 48
    · exact .inr ⟨c, by rw [ltI_false h1, ltI_false h2, ltI_true h3]; rfl⟩
    by_cases h4 : 57 < y
    · exact .inr ⟨c, by rw [ltI_false h1, ltI_false h2, ltI_false h3, ltI_true h4]; rfl⟩
    rw [ltI_false h1, ltI_false h2, ltI_false h3, ltI_false h4]
    simp only [cond_false]
    rw [leN_true (by simp only [DV.count, List.length_cons, List.length_nil]; omega), cond_true]
    have hd : nuD x y = (x - 48) * 10 + (y - 48) := by
      unfold nuD
      rw [wrap8 (x := x - 48) (by omega) (by omega), wrap8 (x := y - 48) (by omega) (by omega), wrap64 (x := x - 48) (by omega) (by omega), wrap64 (x := y - 48) (by omega) (by omega), wrap64 (x := (x - 48) * 10) (by omega) (by omega), wrap64 (by omega) (by omega)]
    rcases nuL_gen k0 k1 l (c ++ [nuD x y]) (by omega) (by simp; omega) with ⟨ns, h5, h6, h7⟩ | ⟨c', h5⟩
    · refine .inl ⟨nuD x y :: ns, ?_, ?_, by rw [h7, List.append_assoc]; rfl⟩
      · intro n hn
        rcases List.mem_cons.1 hn with rfl | hn
        · rw [hd]; omega
        · exact h5 n hn
      · have : tw (nuD x y) = [x, y] := by
          rw [hd]
          unfold tw
          rw [show 48 + ((x - 48) * 10 + (y - 48)) / 10 % 10 = x by omega, show 48 + ((x - 48) * 10 + (y - 48)) % 10 = y by omega]
        show x :: y :: l = tw (nuD x y) ++ flat ns
        rw [this, h6]; rfl
    · exact .inr ⟨c', h5⟩
theorem numbers_gen (M N : Nat) (l : List Int) (hl : l.length ≤ 1000) : when_numbers_F M N l = some ([], false) ∨ ∃ ns, (∀ n ∈ ns, 0 ≤ n ∧ n ≤ 99) ∧ l = flat ns ∧ when_numbers_F M N l = some (ns, true) := by
  unfold when_numbers_F when_numbers_D when_numbers_B
  rw [tmodE (by omega), Nat.ble_eq_true_of_le (show l.length ≤ 1000000 by omega)]
  by_cases he : l.length % 2 = 0
  · rw [eqI_dec, decide_eq_true (show ((l.length : Nat) : Int) % 2 = 0 by omega)]
    simp only [Bool.not_true, cond_false, cond_true]
    rcases nuL_gen (fun c => some (AV.tup [(false, [CV.own 0 (.ints .i64 c)]), (false, [CV.d (.bool true)])], ([] : List (List CV)))) (fun _ => some (AV.tup [(false, [CV.own 0 (.ints .i64 [])]), (false, [CV.d (.bool false)])], [])) l [] he (by simp; omega) with ⟨ns, h1, h2, h3⟩ | ⟨c', h1⟩
    · exact .inr ⟨ns, h1, h2, by rw [h3]; rfl⟩
    · exact .inl (by rw [h1]; rfl)
  · rw [eqI_dec, decide_eq_false (show ¬ ((l.length : Nat) : Int) % 2 = 0 by omega)]
    exact .inl rfl
theorem Get_shape (M N : Nat) (hM : 10001 < M) (tag : Int) (b : List Int) (c : List (List DV)) (hb : b.length ≤ 1000) : ∃ r, when_Get_F M N tag b c = some r ∧ Shape tag b c r := by
  have hf : ∀ o : Option Res, o = some fail2 → ∃ r, o.bind when_Get_dec = some r ∧ Shape tag b c r := fun o ho => ⟨(0, false), by rw [ho]; rfl, .inl rfl⟩
  by_cases hc : c = []
  case neg =>
    unfold when_Get_F when_Get_D when_Get_B
    have hpos : 0 < c.length := List.length_pos_iff.2 hc
    have e1 : ltI 0 ((c.length : Nat) : Int) = true := ltI_true (by omega)
    refine hf _ ?_
    rw [e1]
    rfl
  subst hc
  by_cases hbn : b = []
  · subst hbn
    exact ⟨_, Get_none M N tag, .inl rfl⟩
  have hpos : 0 < b.length := List.length_pos_iff.2 hbn
  obtain ⟨l, z, rfl⟩ : ∃ l z, b = l ++ [z] := ⟨b.dropLast, b.getLast hbn, (List.dropLast_concat_getLast hbn).symm⟩
  have hcut : ∀ {R : Type} (K : List Int → Option R), cutI (l ++ [z]) none (some (IntKind.wrap IntKind.i64 (((l ++ [z]).length : Int) - 1))) K = K l := by
    intro R K
    have h1 : (l ++ [z]).length = l.length + 1 := by simp
    simp only [List.length_append, List.length_cons, List.length_nil] at hb
    rw [h1, wrap64 (by omega) (by omega)]
    have e : (((l.length + 1 : Nat) : Int) - 1) = (l.length : Int) := by omega
    unfold cutI
    simp only
    rw [e, leI_true (by omega), leI_true (by rw [h1]; omega)]
    have : takeI (l ++ [z]) (l.length : Int) = l := by
      show (l ++ [z]).take l.length = l
      simp
    rw [this]
    rfl
  have c0 : ltI 0 ((([] : List (List DV)).length : Nat) : Int) = false := rfl
  have c1 : eqI (((l ++ [z]).length : Nat) : Int) 0 = false := by rw [eqI_dec]; exact decide_eq_false (by omega)
  simp only [List.length_append, List.length_cons, List.length_nil] at hb
  rcases numbers_gen M N l (by omega) with hn | ⟨ns, h99, rfl, hn⟩
  · unfold when_Get_F when_Get_D when_Get_B
    refine hf _ ?_
    rw [c0, c1, hcut, hn]
    rfl
  · by_cases h24 : tag = 24
    · subst h24
      by_cases h7 : ns.length = 7
      · obtain ⟨c, a, m, d, h, i, s, rfl⟩ : ∃ c a m d h i s, ns = [c, a, m, d, h, i, s] := by
          match ns, h7 with
          | [c, a, m, d, h, i, s], _ => exact ⟨_, _, _, _, _, _, _, rfl⟩
        rw [Get7 M N hM c a m d h i s z (h99 _ (by simp)) (h99 _ (by simp)) (h99 _ (by simp)) (h99 _ (by simp)) (h99 _ (by simp)) (h99 _ (by simp)) (h99 _ (by simp))]
        refine ⟨_, rfl, ?_⟩
        cases ltI (c * 100 + a) 1
        · exact .inr ⟨rfl, by simp, _, rfl⟩
        · exact .inl rfl
      · unfold when_Get_F when_Get_D when_Get_B
        refine hf _ ?_
        rw [c0, c1, hcut, hn, bindG_some]
        simp only [Bool.not_true, cond_false]
        by_cases h6 : ns.length < 6
        · rw [ltI_true (show ((ns.length : Nat) : Int) < 6 by omega)]
          rfl
        · rw [ltI_false (show ¬ ((ns.length : Nat) : Int) < 6 by omega)]
          match ns, h6, h7 with
          | [], h6, _ => exact absurd (show ([] : List Int).length < 6 by simp) h6
          | [_], h6, _ => exact absurd (by simp) h6
          | x :: y :: q, h6, h7 =>
            have e1 : eqI (((y :: q).length : Nat) : Int) 6 = false := by
              rw [eqI_dec]; exact decide_eq_false (by simp only [List.length_cons] at h7 ⊢; omega)
            have e2 : ∀ {R : Type} (K : List Int → Option R), cutI (x :: y :: q) (some 1) none K = K (y :: q) := by
              intro R K
              unfold cutI
              simp only
              rw [leI_true (by omega), leI_true (by simp only [List.length_cons]; omega)]
              rfl
            have n0 : ∀ {R : Type} (K : Int → Option R), nth (x :: y :: q) 0 K = K x := fun K => rfl
            have n1 : ∀ {R : Type} (K : Int → Option R), nth (x :: y :: q) 1 K = K y := fun K => rfl
            simp only [n0, n1, e2, e1]
            rfl
    · by_cases h6 : ns.length = 6
      · obtain ⟨a, m, d, h, i, s, rfl⟩ : ∃ a m d h i s, ns = [a, m, d, h, i, s] := by
          match ns, h6 with
          | [a, m, d, h, i, s], _ => exact ⟨_, _, _, _, _, _, rfl⟩
        rw [Get6 M N hM tag a m d h i s z h24 (h99 _ (by simp)) (h99 _ (by simp)) (h99 _ (by simp)) (h99 _ (by simp)) (h99 _ (by simp)) (h99 _ (by simp))]
        exact ⟨_, rfl, .inr ⟨rfl, by simp, _, rfl⟩⟩
      · have e24 : eqI tag 24 = false := by rw [eqI_dec]; exact decide_eq_false h24
        have e6 : eqI ((ns.length : Nat) : Int) 6 = false := by rw [eqI_dec]; exact decide_eq_false (by omega)
        unfold when_Get_F when_Get_D when_Get_B
        refine hf _ ?_
        rw [c0, c1, hcut, hn, bindG_some]
        simp only [Bool.not_true, cond_false]
        by_cases hlt : ns.length < 6
        · rw [ltI_true (show ((ns.length : Nat) : Int) < 6 by omega)]
          rfl
        · rw [ltI_false (show ¬ ((ns.length : Nat) : Int) < 6 by omega)]
          match ns, hlt, e6 with
          | [], hlt, _ => exact absurd (show ([] : List Int).length < 6 by simp) hlt
          | x :: q, hlt, e6 =>
            have n0 : ∀ {R : Type} (K : Int → Option R), nth (x :: q) 0 K = K x := fun K => rfl
            simp only [n0, e24, e6]
            cases ltI x 50 <;> rfl
theorem time_bytes (t : Int) : ∀ x ∈ (timeX t).2.1, 0 ≤ x ∧ x < 256 := by
  have htw : ∀ n : Int, ∀ x ∈ tw n, 0 ≤ x ∧ x < 256 := fun n x hx => by
    simp only [tw, List.mem_cons, List.not_mem_nil, or_false] at hx
    rcases hx with rfl | rfl <;> omega
  unfold timeX
  cases okT t
  · simp
  · show ∀ x ∈ (timeN (dateX t)).2.1, _
    unfold timeN tailB
    cases leI 2050 (dateX t).1 <;> intro x hx
    · simp only [cond_false, List.mem_append, List.mem_cons, List.not_mem_nil, or_false] at hx
      rcases hx with h | h | h | h | h | h | h <;> first | exact htw _ x h | (subst h; omega)
    · simp only [cond_true, List.mem_append, List.mem_cons, List.not_mem_nil, or_false] at hx
      rcases hx with h | h | h | h | h | h | h | h <;> first | exact htw _ x h | (subst h; omega)
/-- BOTH TELL THE SAME of any thing of bytes. -/
theorem Gets_same (M N M' N' : Nat) (hM : 10001 < M) (hM' : 10001 < M') (tag : Int) (b : List Int) (c : List (List DV)) (hb : b.length ≤ 1000) (hby : ∀ x ∈ b, 0 ≤ x ∧ x < 256) : ∃ r, when_Get_F M N tag b c = some r ∧ ref14_Get_F M' N' tag b c = some r ∧ (r.2 = false → r = (0, false)) ∧ (r.2 = true → okT r.1 = true ∧ timeX r.1 = (tag, b, [])) := by
  obtain ⟨r, h1, h2⟩ := Get_shape M N hM tag b c hb
  obtain ⟨q, h3, h4⟩ := rGet_shape M' N' hM' tag b c
  have key : ∀ r, Shape tag b c r → r = (0, false) ∨ (r.2 = true ∧ okT r.1 = true ∧ timeX r.1 = (tag, b, []) ∧ c = []) := by
    rintro r (rfl | ⟨rfl, hbn, t, rfl⟩)
    · exact .inl rfl
    · unfold chk
      cases hq : (eqI (timeX t).1 tag && eqS (bytesOf (timeX t).2.1) (bytesOf b))
      · exact .inl rfl
      · right
        simp only [Bool.and_eq_true] at hq
        have e1 : (timeX t).1 = tag := by simpa [eqI] using hq.1
        have e2 := byte_inj (time_bytes t) hby hq.2
        have hok : okT t = true := by
          cases ho : okT t
          · exfalso
            have : (timeX t).2.1 = [] := by unfold timeX; rw [ho]; rfl
            rw [e2] at this
            exact hbn this
          · rfl
        have h3 : (timeX t).2.2 = [] := by
          unfold timeX timeN
          rw [hok]
          cases leI 2050 (dateX t).1 <;> rfl
        exact ⟨rfl, hok, by show timeX t = _; rw [← e1, ← e2, ← h3], rfl⟩
  rcases key r h2 with rfl | ⟨k1, k2, k3, rfl⟩
  · rcases key q h4 with rfl | ⟨j1, j2, j3, rfl⟩
    · exact ⟨_, h1, h3, fun _ => rfl, fun h => by cases h⟩
    · have := Get_time M N hM q.1 j2
      rw [j3] at this
      simp only at this
      rw [h1] at this
      exact absurd (congrArg Prod.snd (Option.some.inj this)) (by simp)
  · have := rGet_time M' N' hM' r.1 k2
    rw [k3] at this
    simp only at this
    have hr : r = (r.1, true) := by rw [← k1]
    exact ⟨r, h1, this.trans (by rw [← hr]), (fun h => by rw [k1] at h; cases h), fun _ => ⟨k2, k3⟩⟩
end Go.Proofs.Ythmdefgepnkgiaa.Eng
