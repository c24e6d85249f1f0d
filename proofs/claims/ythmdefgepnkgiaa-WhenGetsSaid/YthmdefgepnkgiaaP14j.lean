/- Digits of a date: just if there is such a date; any thing. Conditions: none (bytes, for the thing). -/
import Derived.Test.YthmdefgepnkgiaaP14i
namespace Go.Proofs.Ythmdefgepnkgiaa.Eng
open Go
set_option linter.unusedSimpArgs false
set_option maxRecDepth 100000
theorem tw_inj {a b : Int} (ha : 0 ≤ a ∧ a ≤ 99) (hb : 0 ≤ b ∧ b ≤ 99) (h : tw a = tw b) : a = b := by
  simp only [tw, List.cons.injEq, and_true] at h
  omega
theorem flat_inj : ∀ {ns ms : List Int}, (∀ n ∈ ns, 0 ≤ n ∧ n ≤ 99) → (∀ n ∈ ms, 0 ≤ n ∧ n ≤ 99) → flat ns = flat ms → ns = ms
  | [], [], _, _, _ => rfl
  | [], m :: ms, _, _, h => by simp [flat, tw] at h
  | n :: ns, [], _, _, h => by simp [flat, tw] at h
  | n :: ns, m :: ms, hn, hm, h => by
    have h1 : tw n ++ flat ns = tw m ++ flat ms := h
    have h2 := List.append_inj h1 rfl
    rw [tw_inj (hn n (by simp)) (hm m (by simp)) h2.1, flat_inj (fun k hk => hn k (by simp [hk])) (fun k hk => hm k (by simp [hk])) h2.2]
theorem time_date {t : Int} (ht : okT t = true) : Small6 (dateX t) ∧ timeX t = timeN (dateX t) ∧ 1950 ≤ (dateX t).1 ∧ (dateX t).1 ≤ 9999 := by
  obtain ⟨Y, J, h1, h2⟩ := dateX_ok ht
  rw [h2]
  exact ⟨small6 h1, by unfold timeX; rw [ht, h2]; rfl, h1.y0, h1.y1⟩
theorem date_of7 {t c a m d h i s : Int} (ht : okT t = true) (hx : timeX t = (24, flat [c, a, m, d, h, i, s] ++ [90], [])) (hr : ∀ n ∈ [c, a, m, d, h, i, s], 0 ≤ n ∧ n ≤ 99) : dateX t = (c * 100 + a, m, d, h, i, s) := by
  obtain ⟨hs, e, y0, y1⟩ := time_date ht
  have h1 := timeN_flat _ hs
  rw [← e, hx] at h1
  generalize hdx : dateX t = r at *
  obtain ⟨Y, m', d', h', i', s'⟩ := r
  have a1 := hs.y; have a2 := hs.m; have a3 := hs.d; have a4 := hs.h; have a5 := hs.i; have a6 := hs.s
  simp only at a1 a2 a3 a4 a5 a6 y0 y1 h1
  by_cases h50 : 2050 ≤ Y
  · rw [leI_true h50, cond_true] at h1
    simp only [Prod.mk.injEq, and_true, true_and] at h1
    have h2 := (List.append_inj' h1 rfl).1
    have h3 := flat_inj hr (by
      intro n hn
      simp only [List.mem_cons, List.not_mem_nil, or_false] at hn
      rcases hn with rfl | rfl | rfl | rfl | rfl | rfl | rfl <;> omega) h2
    simp only [List.cons.injEq, and_true] at h3
    obtain ⟨rfl, rfl, rfl, rfl, rfl, rfl, rfl⟩ := h3
    rw [show Y / 100 * 100 + Y % 100 = Y by omega]
  · rw [leI_false h50, cond_false] at h1
    simp only [Prod.mk.injEq] at h1
    omega
theorem date_of6 {t a m d h i s : Int} (ht : okT t = true) (hx : timeX t = (23, flat [a, m, d, h, i, s] ++ [90], [])) (hr : ∀ n ∈ [a, m, d, h, i, s], 0 ≤ n ∧ n ≤ 99) : ∃ Y, 1950 ≤ Y ∧ Y < 2050 ∧ Y % 100 = a ∧ dateX t = (Y, m, d, h, i, s) := by
  obtain ⟨hs, e, y0, y1⟩ := time_date ht
  have h1 := timeN_flat _ hs
  rw [← e, hx] at h1
  generalize hdx : dateX t = r at *
  obtain ⟨Y, m', d', h', i', s'⟩ := r
  have a1 := hs.y; have a2 := hs.m; have a3 := hs.d; have a4 := hs.h; have a5 := hs.i; have a6 := hs.s
  simp only at a1 a2 a3 a4 a5 a6 y0 y1 h1
  by_cases h50 : 2050 ≤ Y
  · rw [leI_true h50, cond_true] at h1
    simp only [Prod.mk.injEq] at h1
    omega
  · rw [leI_false h50, cond_false] at h1
    simp only [Prod.mk.injEq, and_true, true_and] at h1
    have h2 := (List.append_inj' h1 rfl).1
    have h3 := flat_inj hr (by
      intro n hn
      simp only [List.mem_cons, List.not_mem_nil, or_false] at hn
      rcases hn with rfl | rfl | rfl | rfl | rfl | rfl <;> omega) h2
    simp only [List.cons.injEq, and_true] at h3
    obtain ⟨h4, rfl, rfl, rfl, rfl, rfl⟩ := h3
    exact ⟨Y, y0, by omega, h4.symm, rfl⟩
theorem flat_bytes : ∀ {ns : List Int}, ∀ x ∈ flat ns ++ [90], 0 ≤ x ∧ x < 256 := by
  intro ns x hx
  simp only [flat, List.mem_append, List.mem_flatMap, List.mem_cons, List.not_mem_nil, or_false] at hx
  rcases hx with ⟨n, _, hn⟩ | rfl
  · simp only [tw, List.mem_cons, List.not_mem_nil, or_false] at hn
    rcases hn with rfl | rfl <;> omega
  · omega
def okR : Option Res := some (AV.one false [CV.d (DV.bool true)], [])
theorem digits_tail (M N : Nat) (hM : 10001 < M) (tag : Int) (b : List Int) (hb : b.length ≤ 1000) (hby : ∀ x ∈ b, 0 ≤ x ∧ x < 256) (y m d h i s : Int) (hd : ∀ t, okT t = true → timeX t = (tag, b, []) → dateX t = (y, m, d, h, i, s)) :
    (bindG (when_Get_F M N tag b []) fun r1 => bindG (ref14_Get_F M N tag b []) fun r2 => bif !eqI r1.fst r2.fst then (some (AV.one false [CV.d (DV.bool false)], ([] : List (List CV)))) else (bif !r1.snd == r2.snd then (some (AV.one false [CV.d (DV.bool false)], [])) else (bif !r1.snd then (some (AV.one false [CV.d (DV.bool true)], [])) else (bindG (ref14_Date_F M N (r1.fst)) (fun r3 => bif eqI r3.fst y && (eqI r3.snd.fst m && (eqI r3.snd.snd.fst d && (eqI r3.snd.snd.snd.fst h && (eqI r3.snd.snd.snd.snd.fst i && (eqI r3.snd.snd.snd.snd.snd s && true))))) then (bindG (law14_known_F M N) (fun r4 => some (AV.one false [CV.d (DV.bool r4)], []))) else (some (AV.one false [CV.d (DV.bool false)], []))))))) = okR := by
  obtain ⟨r, h1, h2, h3, h4⟩ := Gets_same M N M N hM hM tag b [] hb hby
  rw [h1, h2, bindG_some, bindG_some]
  have e1 : eqI r.1 r.1 = true := by rw [eqI_dec]; exact decide_eq_true rfl
  rw [e1]
  obtain ⟨t, ok⟩ := r
  cases ok
  · rfl
  · obtain ⟨k1, k2⟩ := h4 rfl
    simp only at k1 k2
    have := hd t k1 k2
    rw [known_true M N hM]
    simp only [Bool.not_true, cond_false, beq_self_eq_true]
    rw [rDate_X M N hM, bindG_some, this]
    simp only [eqI_dec, decide_eq_true, Bool.and_self, cond_true, bindG_some]
    rfl
theorem WhenDigits_true (M N : Nat) (hM : 10001 < M) (y m d h i s : Int) : law14_WhenDigits_F M (N + 1) y m d h i s = some true := by
  unfold law14_WhenDigits_F law14_WhenDigits_D law14_WhenDigits_B
  by_cases c1 : y < 0
  · rw [ltI_true c1]; rfl
  by_cases c2 : 9999 < y
  · rw [ltI_false c1, ltI_true c2]; rfl
  by_cases c3 : m < 0
  · rw [ltI_false c1, ltI_false c2, ltI_true c3]; rfl
  by_cases c4 : 99 < m
  · rw [ltI_false c1, ltI_false c2, ltI_false c3, ltI_true c4]; rfl
  by_cases c5 : d < 0
  · rw [ltI_false c1, ltI_false c2, ltI_false c3, ltI_false c4, ltI_true c5]; rfl
  by_cases c6 : 99 < d
  · rw [ltI_false c1, ltI_false c2, ltI_false c3, ltI_false c4, ltI_false c5, ltI_true c6]; rfl
  by_cases c7 : h < 0
  · rw [ltI_false c1, ltI_false c2, ltI_false c3, ltI_false c4, ltI_false c5, ltI_false c6, ltI_true c7]; rfl
  by_cases c8 : 99 < h
  · rw [ltI_false c1, ltI_false c2, ltI_false c3, ltI_false c4, ltI_false c5, ltI_false c6, ltI_false c7, ltI_true c8]; rfl
  by_cases c9 : i < 0
  · rw [ltI_false c1, ltI_false c2, ltI_false c3, ltI_false c4, ltI_false c5, ltI_false c6, ltI_false c7, ltI_false c8, ltI_true c9]; rfl
  by_cases c10 : 99 < i
  · rw [ltI_false c1, ltI_false c2, ltI_false c3, ltI_false c4, ltI_false c5, ltI_false c6, ltI_false c7, ltI_false c8, ltI_false c9, ltI_true c10]; rfl
  by_cases c11 : s < 0
  · rw [ltI_false c1, ltI_false c2, ltI_false c3, ltI_false c4, ltI_false c5, ltI_false c6, ltI_false c7, ltI_false c8, ltI_false c9, ltI_false c10, ltI_true c11]; rfl
  by_cases c12 : 99 < s
  · rw [ltI_false c1, ltI_false c2, ltI_false c3, ltI_false c4, ltI_false c5, ltI_false c6, ltI_false c7, ltI_false c8, ltI_false c9, ltI_false c10, ltI_false c11, ltI_true c12]; rfl
  rw [ltI_false c1, ltI_false c2, ltI_false c3, ltI_false c4, ltI_false c5, ltI_false c6, ltI_false c7, ltI_false c8, ltI_false c9, ltI_false c10, ltI_false c11, ltI_false c12]
  simp only [cond_false]
  have w1 : ∀ n : Int, 0 ≤ n → n ≤ 9 → IntKind.wrap IntKind.u8 (IntKind.wrap IntKind.i64 (48 + n)) = 48 + n := fun n h1 h2 => by rw [wrap64 (by omega) (by omega), wrap8 (by omega) (by omega)]
  have w2 : ∀ n : Int, 0 ≤ n → n ≤ 9999 → IntKind.wrap IntKind.i64 n = n := fun n h1 h2 => wrap64 (by omega) (by omega)
  have two : ∀ n : Int, 0 ≤ n → n ≤ 99 → [IntKind.wrap IntKind.u8 (IntKind.wrap IntKind.i64 (48 + IntKind.wrap IntKind.i64 (Int.tdiv n 10))), IntKind.wrap IntKind.u8 (IntKind.wrap IntKind.i64 (48 + Int.tmod n 10))] = tw n := fun n h1 h2 => by
    rw [tdivE h1, tmodE h1, w2 (n / 10) (by omega) (by omega), w1 (n / 10) (by omega) (by omega), w1 (n % 10) (by omega) (by omega)]
    unfold tw
    rw [show n / 10 % 10 = n / 10 by omega]
  have hy2 : [IntKind.wrap IntKind.u8 (IntKind.wrap IntKind.i64 (48 + Int.tmod (IntKind.wrap IntKind.i64 (Int.tdiv y 10)) 10)), IntKind.wrap IntKind.u8 (IntKind.wrap IntKind.i64 (48 + Int.tmod y 10))] = tw (y % 100) := by
    rw [tdivE (by omega), w2 (y / 10) (by omega) (by omega), tmodE (show 0 ≤ y / 10 by omega), tmodE (show 0 ≤ y by omega), w1 (y / 10 % 10) (by omega) (by omega), w1 (y % 10) (by omega) (by omega)]
    unfold tw
    rw [show y % 100 / 10 % 10 = y / 10 % 10 by omega, show y % 100 % 10 = y % 10 by omega]
  have hy4 : [IntKind.wrap IntKind.u8 (IntKind.wrap IntKind.i64 (48 + IntKind.wrap IntKind.i64 (Int.tdiv y 1000))), IntKind.wrap IntKind.u8 (IntKind.wrap IntKind.i64 (48 + Int.tmod (IntKind.wrap IntKind.i64 (Int.tdiv y 100)) 10))] = tw (y / 100) := by
    rw [tdivE (show 0 ≤ y by omega) 1000, tdivE (show 0 ≤ y by omega) 100, w2 (y / 1000) (by omega) (by omega), w2 (y / 100) (by omega) (by omega), tmodE (by omega), w1 (y / 1000) (by omega) (by omega), w1 (y / 100 % 10) (by omega) (by omega)]
    unfold tw
    rw [show y / 100 / 10 % 10 = y / 1000 by omega]
  have join : ∀ (a b c d e f g h i j k l : Int), [a, b, c, d, e, f, g, h, i, j, k, l, 90] = [a, b] ++ ([c, d] ++ ([e, f] ++ ([g, h] ++ ([i, j] ++ ([k, l] ++ [90]))))) := fun _ _ _ _ _ _ _ _ _ _ _ _ => rfl
  rw [join, hy2, hy4, two m (by omega) (by omega), two d (by omega) (by omega), two h (by omega) (by omega), two i (by omega) (by omega), two s (by omega) (by omega)]
  have f7 : tw (y / 100) ++ (tw (y % 100) ++ (tw m ++ (tw d ++ (tw h ++ (tw i ++ (tw s ++ [90])))))) = flat [y / 100, y % 100, m, d, h, i, s] ++ [90] := rfl
  have f6 : tw (y % 100) ++ (tw m ++ (tw d ++ (tw h ++ (tw i ++ (tw s ++ [90]))))) = flat [y % 100, m, d, h, i, s] ++ [90] := rfl
  rw [f7, f6]
  have t7 := digits_tail M (N + 1) hM 24 (flat [y / 100, y % 100, m, d, h, i, s] ++ [90]) (by show (15 : Nat) ≤ 1000; omega) flat_bytes y m d h i s (fun t h1 h2 => by
    have := date_of7 h1 h2 (by
      intro n hn
      simp only [List.mem_cons, List.not_mem_nil, or_false] at hn
      rcases hn with rfl | rfl | rfl | rfl | rfl | rfl | rfl <;> omega)
    rw [this, show y / 100 * 100 + y % 100 = y by omega])
  by_cases g1 : y < 1950
  · rw [ltI_true g1, cond_true]
    refine Eq.trans (congrArg (fun o : Option Res => o.bind law14_WhenDigits_dec) t7) rfl
  · rw [ltI_false g1, cond_false]
    by_cases g2 : 2050 ≤ y
    · rw [leI_true g2, cond_true]
      refine Eq.trans (congrArg (fun o : Option Res => o.bind law14_WhenDigits_dec) t7) rfl
    · rw [leI_false g2, cond_false]
      have t6 := digits_tail M (N + 1) hM 23 (flat [y % 100, m, d, h, i, s] ++ [90]) (by show (13 : Nat) ≤ 1000; omega) flat_bytes y m d h i s (fun t h1 h2 => by
        obtain ⟨Y, k1, k2, k3, k4⟩ := date_of6 h1 h2 (by
          intro n hn
          simp only [List.mem_cons, List.not_mem_nil, or_false] at hn
          rcases hn with rfl | rfl | rfl | rfl | rfl | rfl <;> omega)
        rw [k4, show Y = y by omega])
      refine Eq.trans (congrArg (fun o : Option Res => o.bind law14_WhenDigits_dec) t6) rfl
theorem WhenGets_true (M N : Nat) (hM : 10001 < M) (tag : Int) (b : List Int) (c : List (List DV)) (hby : ∀ x ∈ b, 0 ≤ x ∧ x < 256) : law14_WhenGets_F M (N + 1) tag b c = some true := by
  unfold law14_WhenGets_F law14_WhenGets_D law14_WhenGets_B
  by_cases h1 : 100 < b.length
  · rw [ltI_true (by omega)]; rfl
  rw [ltI_false (by omega)]
  by_cases h2 : 5 < c.length
  · rw [ltI_true (show (5 : Int) < ((c.length : Nat) : Int) by omega)]; rfl
  rw [ltI_false (show ¬ (5 : Int) < ((c.length : Nat) : Int) by omega)]
  obtain ⟨r, k1, k2, _, _⟩ := Gets_same M (N + 1) M (N + 1) hM hM tag b c (by omega) hby
  simp only [cond_false]
  rw [k1, k2, bindG_some, bindG_some, known_true M _ hM, eqI_dec, decide_eq_true rfl]
  simp only [beq_self_eq_true, cond_true, bindG_some]
  rfl
end Go.Proofs.Ythmdefgepnkgiaa.Eng
