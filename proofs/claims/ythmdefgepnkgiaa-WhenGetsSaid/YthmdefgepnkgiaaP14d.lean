/- Things as times, plainly: the program's side. Conditions: none. -/
import Derived.Test.YthmdefgepnkgiaaP14c
namespace Go.Proofs.Ythmdefgepnkgiaa.Eng
open Go
set_option linter.unusedSimpArgs false
set_option maxRecDepth 100000
theorem leN_true {a b : Nat} (h : a ≤ b) : leN a b = true := decide_eq_true h
theorem byte_inj : ∀ {l m : List Int}, (∀ x ∈ l, 0 ≤ x ∧ x < 256) → (∀ x ∈ m, 0 ≤ x ∧ x < 256) → eqS (bytesOf l) (bytesOf m) = true → l = m := by
  intro l m hl hm h
  have h1 : (bytesOf l).toList = (bytesOf m).toList := by simpa [eqS] using h
  rw [ByteArray.toList_eq, ByteArray.toList_eq] at h1
  have h2 : l.map (fun n => n.toNat.toUInt8) = m.map (fun n => n.toNat.toUInt8) := by
    have e : ∀ l : List Int, (bytesOf l).data.toList = l.map (fun n => n.toNat.toUInt8) := fun l => by simp [bytesOf]
    rw [← e, ← e]; exact h1
  clear h h1
  induction l generalizing m with
  | nil =>
    cases m with
    | nil => rfl
    | cons y m => simp at h2
  | cons x l ih =>
    cases m with
    | nil => simp at h2
    | cons y m =>
      simp only [List.map_cons, List.cons.injEq] at h2
      obtain ⟨ha, hb⟩ := h2
      have hx := hl x (by simp)
      have hy := hm y (by simp)
      have hn : x.toNat = y.toNat := by
        have := congrArg UInt8.toNat ha
        simp only [Nat.toUInt8_eq, UInt8.toNat_ofNat'] at this
        omega
      have : x = y := by omega
      rw [this, ih (fun z hz => hl z (by simp [hz])) (fun z hz => hm z (by simp [hz])) hb]
theorem eqS_self (b : ByteArray) : eqS b b = true := by simp [eqS]
def flat (ns : List Int) : List Int := ns.flatMap tw
theorem chunk_flat : ∀ ns : List Int, chunk2 (flat ns) = ns.map tw
  | [] => rfl
  | n :: ns => by
    show chunk2 ((48 + n / 10 % 10) :: (48 + n % 10) :: flat ns) = _
    rw [chunk2, chunk_flat ns]
    rfl
theorem flatW_len : ∀ ns : List Int, (flat ns).length = 2 * ns.length
  | [] => rfl
  | n :: ns => by
    show ((48 + n / 10 % 10) :: (48 + n % 10) :: flat ns).length = _
    simp only [List.length_cons, flatW_len ns]; omega
theorem nuL_flat {R : Type} (k0 k1 : List Int → Option R) : ∀ (ns c : List Int), (∀ n ∈ ns, 0 ≤ n ∧ n ≤ 99) → c.length + ns.length ≤ 1000 → nuL k0 k1 (ns.map tw) c = k0 (c ++ ns)
  | [], c, _, _ => by simp [nuL]
  | n :: ns, c, h, hl => by
    have hn := h n (by simp)
    simp only [List.map_cons, nuL]
    have e0 : nth (tw n) 0 = fun (K : Int → Option R) => K (48 + n / 10 % 10) := by funext K; rfl
    have e1 : nth (tw n) 1 = fun (K : Int → Option R) => K (48 + n % 10) := by funext K; rfl
    unfold nu1
    simp only [e0, e1]
    rw [ltI_false (by omega), ltI_false (by omega), ltI_false (by omega), ltI_false (by omega)]
    simp only [cond_false]
    have hd : nuD (48 + n / 10 % 10) (48 + n % 10) = n := by
      unfold nuD
      rw [wrap8 (x := 48 + n / 10 % 10 - 48) (by omega) (by omega), wrap8 (x := 48 + n % 10 - 48) (by omega) (by omega), wrap64 (x := 48 + n / 10 % 10 - 48) (by omega) (by omega), wrap64 (x := 48 + n % 10 - 48) (by omega) (by omega), wrap64 (x := (48 + n / 10 % 10 - 48) * 10) (by omega) (by omega), wrap64 (by omega) (by omega)]
      omega
    rw [hd, leN_true (by
      simp only [DV.count, List.length_cons, List.length_nil] at hl ⊢
      omega), cond_true, nuL_flat k0 k1 ns (c ++ [n]) (fun m hm => h m (by simp [hm])) (by simp at hl ⊢; omega), List.append_assoc]
    rfl
theorem numbers_flat (M N : Nat) (ns : List Int) (h : ∀ n ∈ ns, 0 ≤ n ∧ n ≤ 99) (hl : ns.length ≤ 100) : when_numbers_F M N (flat ns) = some (ns, true) := by
  unfold when_numbers_F when_numbers_D when_numbers_B
  rw [flatW_len, tmodE (by omega), eqI_dec, decide_eq_true (show ((2 * ns.length : Nat) : Int) % 2 = 0 by omega), chunk_flat, nuL_flat _ _ ns [] h (by simp; omega), Nat.ble_eq_true_of_le (by omega)]
  rfl
/-- The seconds of a date. -/
def unixP (y m d h i s : Int) : Int := (A y - 719162 + Sm y (min m.toNat 12 - 1) + d - 1) * 86400 + h * 3600 + i * 60 + s
theorem A_le {y : Int} (h : 1 ≤ y) (h2 : y ≤ 10000) : 0 ≤ A y ∧ A y ≤ 3652059 := by
  have h1 := A_mono (y - 1).toNat 1
  have e : (1 : Int) + ((y - 1).toNat : Int) = y := by omega
  rw [e] at h1
  have : A 1 = 0 := by decide
  have h3 := A_mono (10000 - y).toNat y
  have e3 : y + ((10000 - y).toNat : Int) = 10000 := by omega
  rw [e3, A10000] at h3
  omega
theorem Sm_le (y : Int) : ∀ j : Nat, 0 ≤ Sm y j ∧ Sm y j ≤ 31 * j
  | 0 => ⟨Int.le_refl _, by simp [Sm]⟩
  | j + 1 => by
    have h1 := Sm_le y j
    have h2 := mdays_pos y ((j + 1 : Nat) : Int)
    have hs : Sm y (j + 1) = Sm y j + mdays y ((j + 1 : Nat) : Int) := rfl
    omega
theorem of_loop {R : Type} (M N : Nat) (k0 : List Int → Int → Option R) (y m : Int) (l : List Int) (n0 : Int) (hy : 0 ≤ y) (hm0 : 0 ≤ m) (hn : -10000000 ≤ n0 ∧ n0 ≤ 10000000) : ∀ (n j : Nat), j ≤ min m.toNat 12 - 1 → (min m.toNat 12 - 1) - j < n →
    when_of_l0 M (when_ahead_F M N) (when_days_F M N) k0 n y (m :: l) (n0 + Sm y j) ((j + 1 : Nat) : Int) = k0 (m :: l) (n0 + Sm y (min m.toNat 12 - 1))
  | 0, _, _, h => by omega
  | n + 1, j, hj, h => by
    show when_of_s0 _ _ _ _ _ _ _ _ _ = _
    unfold when_of_s0
    have e0 : nth (m :: l) 0 = fun (K : Int → Option R) => K m := by funext K; rfl
    simp only [e0]
    by_cases e : j = min m.toNat 12 - 1
    · subst e
      by_cases h1 : ((min m.toNat 12 - 1 + 1 : Nat) : Int) < m
      · rw [ltI_true h1, ltI_false (by omega)]
        rfl
      · rw [ltI_false h1]
        rfl
    · have hb := Sm_le y j
      have hb2 := mdays_pos y ((j + 1 : Nat) : Int)
      have hj2 : j ≤ 12 := by omega
      rw [ltI_true (by omega), ltI_true (by omega), cond_true, cond_true, days_F M N y _ hy, bindG_some, wrap64 (x := n0 + Sm y j + mdays y ((j + 1 : Nat) : Int)) (by omega) (by omega), wrap64 (x := ((j + 1 : Nat) : Int) + 1) (by omega) (by omega)]
      have e1 : n0 + Sm y j + mdays y ((j + 1 : Nat) : Int) = n0 + Sm y (j + 1) := by
        show _ = n0 + (Sm y j + mdays y ((j + 1 : Nat) : Int)); omega
      have e2 : ((j + 1 : Nat) : Int) + 1 = ((j + 1 + 1 : Nat) : Int) := by omega
      rw [e1, e2]
      exact of_loop M N k0 y m l n0 hy hm0 hn n (j + 1) (by omega) (by omega)
theorem of_F (M N : Nat) (hM : 100 < M) (y m d h i s : Int) (hy : 1 ≤ y ∧ y ≤ 9999) (hm : 0 ≤ m ∧ m ≤ 99) (hd : 0 ≤ d ∧ d ≤ 99) (hh : 0 ≤ h ∧ h ≤ 99) (hi : 0 ≤ i ∧ i ≤ 99) (hs : 0 ≤ s ∧ s ≤ 99) : when_of_F M N y [m, d, h, i, s] = some (unixP y m d h i s) := by
  unfold when_of_F when_of_D when_of_B
  have ha : A 1970 = 719162 := by decide
  have hA := A_le hy.1 (show y ≤ 10000 by omega)
  rw [ahead_F M N y (by omega) (by omega), bindG_some, ahead_F M N 1970 (by omega) (by omega), bindG_some, ha, wrap64 (x := A y - 719162) (by omega) (by omega)]
  have hl := of_loop M N (fun w11 w12 => nth (w11) (1) (fun x13 => nth (w11) (2) (fun x14 => nth (w11) (3) (fun x15 => nth (w11) (4) (fun x16 => some (AV.one false [CV.d (DV.int IntKind.i64 (IntKind.wrap IntKind.i64 (IntKind.wrap IntKind.i64 (IntKind.wrap IntKind.i64 (IntKind.wrap IntKind.i64 (IntKind.wrap IntKind.i64 (IntKind.wrap IntKind.i64 (w12 + x13) - 1) * 86400) + IntKind.wrap IntKind.i64 (x14 * 3600)) + IntKind.wrap IntKind.i64 (x15 * 60)) + x16)))], ([] : List (List CV)))))))) y m [d, h, i, s] (A y - 719162) (by omega) hm.1 (by omega) M 0 (by omega) (by omega)
  have e0 : A y - 719162 + Sm y 0 = A y - 719162 := by show _ + 0 = _; omega
  have e1 : ((0 + 1 : Nat) : Int) = 1 := rfl
  rw [e0, e1] at hl
  rw [hl]
  have hS := Sm_le y (min m.toNat 12 - 1)
  have hS2 : Sm y (min m.toNat 12 - 1) ≤ 400 := by
    have : min m.toNat 12 - 1 ≤ 11 := by omega
    omega
  have n1 : nth [m, d, h, i, s] 1 = fun (K : Int → Option Res) => K d := by funext K; rfl
  have n2 : nth [m, d, h, i, s] 2 = fun (K : Int → Option Res) => K h := by funext K; rfl
  have n3 : nth [m, d, h, i, s] 3 = fun (K : Int → Option Res) => K i := by funext K; rfl
  have n4 : nth [m, d, h, i, s] 4 = fun (K : Int → Option Res) => K s := by funext K; rfl
  simp only [n1, n2, n3, n4]
  generalize hSS : Sm y (min m.toNat 12 - 1) = S at hS hS2
  rw [wrap64 (x := A y - 719162 + S + d) (by omega) (by omega), wrap64 (x := A y - 719162 + S + d - 1) (by omega) (by omega), wrap64 (x := (A y - 719162 + S + d - 1) * 86400) (by omega) (by omega), wrap64 (x := h * 3600) (by omega) (by omega), wrap64 (x := i * 60) (by omega) (by omega),
    wrap64 (x := (A y - 719162 + S + d - 1) * 86400 + h * 3600) (by omega) (by omega), wrap64 (x := (A y - 719162 + S + d - 1) * 86400 + h * 3600 + i * 60) (by omega) (by omega), wrap64 (x := (A y - 719162 + S + d - 1) * 86400 + h * 3600 + i * 60 + s) (by omega) (by omega)]
  unfold unixP
  rw [hSS]
  rfl
open Classical in
/-- A time's date, if it may be. -/
noncomputable def dateX (t : Int) : D6 := if h : okT t = true then dateR t (date_ex h).choose (date_ex h).choose_spec.choose else (0, 0, 0, 0, 0, 0)
theorem dateX_ok {t : Int} (h : okT t = true) : ∃ Y J, DateOf t Y J ∧ dateX t = dateR t Y J := by
  refine ⟨(date_ex h).choose, (date_ex h).choose_spec.choose, (date_ex h).choose_spec.choose_spec, ?_⟩
  unfold dateX
  rw [dif_pos h]
noncomputable def timeX (t : Int) : N3 := bif okT t then timeN (dateX t) else (0, [], [])
theorem Date_X (M N : Nat) (hM : 10001 < M) (t : Int) : when_Date_F M N t = some (dateX t) := by
  cases h : okT t
  · rw [Date_no M N t h]; unfold dateX; rw [dif_neg (by rw [h]; simp)]
  · obtain ⟨Y, J, h1, h2⟩ := dateX_ok h
    rw [Date_F M N hM h h1, h2]
theorem rDate_X (M N : Nat) (hM : 10001 < M) (t : Int) : ref14_Date_F M N t = some (dateX t) := by
  cases h : okT t
  · rw [rDate_no M N t h]; unfold dateX; rw [dif_neg (by rw [h]; simp)]
  · obtain ⟨Y, J, h1, h2⟩ := dateX_ok h
    rw [rDate_F M N hM h h1, h2]
theorem Time_X (M N : Nat) (hM : 10001 < M) (t : Int) : when_Time_F M N t = some (timeX t) := by
  unfold timeX
  cases h : okT t
  · exact Time_no M N t h
  · obtain ⟨Y, J, h1, h2⟩ := dateX_ok h
    rw [Time_of M N t (dateX t) h (Date_X M N hM t) (by rw [h2]; exact small6 h1)]
    rfl
theorem rTime_X (M N : Nat) (hM : 10001 < M) (t : Int) : ref14_Time_F M N t = some (timeX t) := by
  unfold timeX
  cases h : okT t
  · exact rTime_no M N t h
  · obtain ⟨Y, J, h1, h2⟩ := dateX_ok h
    rw [rTime_of M N t (dateX t) h (rDate_X M N hM t) (by rw [h2]; exact small6 h1)]
    rfl
theorem unix_date {t Y : Int} {J : Nat} (ht : okT t = true) (h : DateOf t Y J) : unixP (dateR t Y J).1 (dateR t Y J).2.1 (dateR t Y J).2.2.1 (dateR t Y J).2.2.2.1 (dateR t Y J).2.2.2.2.1 (dateR t Y J).2.2.2.2.2 = t := by
  have hj := h.j
  show unixP Y ((J + 1 : Nat) : Int) (dayT t - A Y - Sm Y J + 1) (secT t / 3600) (secT t % 3600 / 60) (secT t % 60) = t
  unfold unixP
  have e : min ((J + 1 : Nat) : Int).toNat 12 - 1 = J := by omega
  rw [e]
  have hs := sec_b t
  have hr := (okT_iff t).1 ht
  have e2 : A Y - 719162 + Sm Y J + (dayT t - A Y - Sm Y J + 1) - 1 = dayT t - 719162 := by omega
  rw [e2]
  unfold dayT secT at *
  omega
/-- What is read is told again. -/
noncomputable def chk (t tag : Int) (body : List Int) : Int × Bool := bif eqI (timeX t).1 tag && eqS (bytesOf (timeX t).2.1) (bytesOf body) then (t, true) else (0, false)
theorem time_len (t : Int) : (timeX t).2.1.length ≤ 15 := by
  unfold timeX timeN tailB
  cases okT t
  · simp
  · cases leI 2050 (dateX t).1 <;> simp [tw]
theorem cut_flat {R : Type} (ns : List Int) (z : Int) (hl : ns.length ≤ 100) (K : List Int → Option R) : cutI (flat ns ++ [z]) none (some (IntKind.wrap IntKind.i64 (((flat ns ++ [z]).length : Int) - 1))) K = K (flat ns) := by
  have h1 : (flat ns ++ [z]).length = 2 * ns.length + 1 := by simp [flatW_len]
  rw [h1, wrap64 (by omega) (by omega)]
  have e : (((2 * ns.length + 1 : Nat) : Int) - 1) = ((flat ns).length : Int) := by rw [flatW_len]; omega
  unfold cutI
  simp only
  rw [e, leI_true (by omega), leI_true (by rw [h1, flatW_len]; omega)]
  have : takeI (flat ns ++ [z]) ((flat ns).length : Int) = flat ns := by
    show (flat ns ++ [z]).take (flat ns).length = flat ns
    simp
  rw [this]
  rfl
end Go.Proofs.Ythmdefgepnkgiaa.Eng
