/- Numbers by their values. -/
import Derived.Test.YtenchfkljmodkaaDoorAx1
import Derived.Test.YtenchfkljmodkaaDoorAx2
import Derived.Test.YtenchfkljmodkaaDoorAx3
import Derived.Test.YtenchfkljmodkaaDoorAx4
import Derived.Test.YtenchfkljmodkaaDoorAx5
import Derived.Test.YtenchfkljmodkaaDoorAx6
import Derived.Test.YtenchfkljmodkaaDoorAx7
namespace Go.Proofs.YtenchfkljmodkaaDoor.V
open Go.RowKit Go.Proofs.YtenchfkljmodkaaDoor.A Go.Proofs.YtenchfkljmodkaaDoorW.PrintWords Go.Proofs.YtenchfkljmodkaaDoorW.PrintLast
set_option linter.unusedVariables false
set_option linter.unusedSimpArgs false

theorem pw64 (n : Int) (h0 : -9223372036854775808 ≤ n) (h1 : n < 9223372036854775808) : wrap64 n = n := by unfold wrap64; omega
theorem psucc (i : Nat) (h : i < 4611686018427387904) : wrap64 ((i : Int) + 1) = ((i + 1 : Nat) : Int) := by rw [pw64 _ (by omega) (by omega)]; omega
theorem tl (s : ByteArray) : s.toList = s.data.toList := ByteArray.toList_eq s
theorem dl (s : ByteArray) : s.data.toList.length = s.size := data_length s
theorem da (a b : ByteArray) : (a ++ b).data.toList = a.data.toList ++ b.data.toList := by rw [ByteArray.data_append, Array.toList_append]
theorem de (s : ByteArray) (i j : Nat) : (s.extract i j).data.toList = (s.data.toList.take j).drop i := by rw [ByteArray.data_extract, Array.toList_extract, List.extract_eq_take_drop, List.drop_take]
theorem rdo (l : List ByteArray) (i : Nat) (h : i < l.length) : rdOf ByteArray.empty l (i : Int) = l[i] := by simp [rdOf, h]

/-- the signs of a part -/
def signs : List UInt8 := [97, 98, 99, 100, 101, 102, 103, 104, 105, 106, 107, 108, 109, 110, 111, 112, 113, 114, 115, 116, 117, 118, 119, 120, 121, 122, 48, 49, 50, 51, 52, 53, 54, 55, 56, 57, 45, 95, 46]
def okp (p : List UInt8) : Bool := decide (p ≠ []) && decide (p.length ≤ 20) && decide (p ≠ [46]) && decide (p ≠ [46, 46]) && p.all (fun c => signs.contains c)
/-- the parts of a row of bytes, 'cur' already read -/
def pts : List UInt8 → List UInt8 → List (List UInt8)
  | cur, [] => [cur]
  | cur, c :: l => if c = 47 then cur :: pts [] l else pts (cur ++ [c]) l
def isL (l : List UInt8) : Bool := decide (l.length ≤ 32) && (pts [] l).all okp
theorem pts_cut (cur a b : List UInt8) : pts cur (a ++ 47 :: b) = pts cur a ++ pts [] b := by
  induction a generalizing cur with
  | nil => simp [pts]
  | cons c a ih =>
    rw [List.cons_append]
    simp only [pts]
    by_cases h : c = 47
    · rw [if_pos h, if_pos h, ih, List.cons_append]
    · rw [if_neg h, if_neg h, ih]
theorem pts_one (cur a : List UInt8) (h : 47 ∉ a) : pts cur a = [cur ++ a] := by
  induction a generalizing cur with
  | nil => simp [pts]
  | cons c a ih =>
    simp only [pts]
    rw [if_neg (fun e => h (by simp [e])), ih _ (fun e => h (by simp [e])), List.append_assoc]
    rfl
theorem pts_first (a b : List UInt8) (h : 47 ∉ a) : pts [] (a ++ 47 :: b) = a :: pts [] b := by rw [pts_cut, pts_one [] a h]; rfl

theorem mem_tw {α : Type} {p : α → Bool} {l : List α} {x : α} (h : x ∈ l.takeWhile p) : p x = true := by
  induction l with
  | nil => simp at h
  | cons y l ih =>
    rw [List.takeWhile_cons] at h
    by_cases hy : p y = true
    · rw [if_pos hy] at h
      rcases List.mem_cons.mp h with h | h
      · rw [h]; exact hy
      · exact ih h
    · rw [if_neg hy] at h; simp at h
/-! a part -/
theorem trim_nil (p : List UInt8) : (Lib.trimS p signs = []) = (p.all (fun c => signs.contains c) = true) := by
  unfold Lib.trimS Lib.trimLeftS Lib.trimRightS
  apply propext
  constructor
  · intro h
    rw [List.all_eq_true]
    by_cases h2 : p.all (fun c => signs.contains c) = true
    · exact List.all_eq_true.mp h2
    · exfalso
      have h3 : ∃ c ∈ p, ¬ signs.contains c = true := by simpa using h2
      obtain ⟨c, hc, hn⟩ := h3
      have k1 : c ∈ p.reverse.dropWhile (fun x => signs.contains x) := by
        have e := List.takeWhile_append_dropWhile (p := fun x => signs.contains x) (l := p.reverse)
        have hm : c ∈ p.reverse := List.mem_reverse.mpr hc
        rw [← e] at hm
        rcases List.mem_append.mp hm with h4 | h4
        · exact absurd (mem_tw h4) hn
        · exact h4
      have k2 : c ∈ (p.reverse.dropWhile (fun x => signs.contains x)).reverse.dropWhile (fun x => signs.contains x) := by
        have e := List.takeWhile_append_dropWhile (p := fun x => signs.contains x) (l := (p.reverse.dropWhile (fun x => signs.contains x)).reverse)
        have hm : c ∈ (p.reverse.dropWhile (fun x => signs.contains x)).reverse := List.mem_reverse.mpr k1
        rw [← e] at hm
        rcases List.mem_append.mp hm with h4 | h4
        · exact absurd (mem_tw h4) hn
        · exact h4
      rw [h] at k2
      exact absurd k2 (by simp)
  · intro h
    have h1 : ∀ q : List UInt8, (∀ x ∈ q, signs.contains x = true) → q.dropWhile (fun x => signs.contains x) = [] := by
      intro q
      induction q with
      | nil => intro _; rfl
      | cons x q ih =>
        intro hq
        rw [List.dropWhile_cons, if_pos (hq x (by simp))]
        exact ih (fun y hy => hq y (by simp [hy]))
    rw [h1 p.reverse (fun x hx => List.all_eq_true.mp h x (List.mem_reverse.mp hx))]
    rfl
theorem partV (s : ByteArray) : path_isPart.f s = some (okp s.data.toList) := by
  unfold path_isPart.f okp
  simp only [tl]
  by_cases h1 : s.data.toList = []
  · simp [h1]
  · rw [if_neg h1]
    by_cases h2 : s.size ≤ 20
    · rw [if_pos (by omega)]
      by_cases h3 : s.data.toList = [46]
      · simp [h3]
      · rw [if_neg h3]
        by_cases h4 : s.data.toList = [46, 46]
        · simp [h4]
        · rw [if_neg h4]
          unfold strings_Trim.f
          rw [if_pos ⟨by omega, by decide, by decide⟩, Option.bind_some]
          congr 1
          have e : (ByteArray.mk (Lib.trimS s.data.toList signs).toArray).data.toList = Lib.trimS s.data.toList signs := by simp
          have e2 : (⟨#[97, 98, 99, 100, 101, 102, 103, 104, 105, 106, 107, 108, 109, 110, 111, 112, 113, 114, 115, 116, 117, 118, 119, 120, 121, 122, 48, 49, 50, 51, 52, 53, 54, 55, 56, 57, 45, 95, 46]⟩ : ByteArray).data.toList = signs := rfl
          rw [e2, e, dl]
          simp only [h1, h2, h3, h4, ne_eq, not_false_eq_true, decide_true, Bool.true_and]
          rw [Bool.eq_iff_iff, beq_iff_eq, trim_nil]
    · rw [if_neg (by omega), dl]
      simp [h2]
theorem letterV : ∀ n : Fin 256, apostilleref21_letter.f (n.val : Int) = some (signs.contains (UInt8.ofNat n.val)) := by decide +kernel
theorem letterB (c : UInt8) : apostilleref21_letter.f (c.toNat : Int) = some (signs.contains c) := by
  have h := letterV ⟨c.toNat, c.toNat_lt⟩
  simpa using h
theorem btl (s : ByteArray) (i : Nat) (h : i < s.data.toList.length) : bt s (i : Int) = ((s.data.toList[i]).toNat : Int) := by
  have h2 : i < s.size := by rw [← dl]; exact h
  unfold bt
  rw [Int.toNat_natCast, dif_pos h2]
  rfl
theorem refpart_l0 (s : ByteArray) (hs : s.size < 1000000) : ∀ (d i : Nat), i + d = s.size → (∀ c ∈ s.data.toList.take i, signs.contains c = true) → Ev (fun k => apostilleref21_part.l0 k s (i : Int)) (okp s.data.toList) := by
  intro d
  induction d with
  | zero =>
    intro i hi ha
    rw [List.take_of_length_le (by rw [dl]; omega)] at ha
    have ha2 : s.data.toList.all (fun c => signs.contains c) = true := List.all_eq_true.mpr ha
    refine Ev.step (f := fun _ => some (okp s.data.toList)) (fun k => ?_) (Ev.now _)
    simp only [apostilleref21_part.l0, tl]
    rw [if_neg (by omega)]
    unfold okp
    rw [ha2, dl]
    by_cases h1 : s.size ≥ 1
    · have hn : s.data.toList ≠ [] := fun e => by have := dl s; rw [e] at this; simp at this; omega
      rw [if_pos (by omega)]
      by_cases h2 : s.size ≤ 20
      · rw [if_pos (by omega)]
        by_cases h3 : s.data.toList = [46]
        · simp [h3]
        · rw [if_neg h3]
          simp only [hn, h2, h3, ne_eq, not_false_eq_true, decide_true, Bool.true_and, Bool.and_true, bne]
          congr 1
          rw [Bool.eq_iff_iff]
          simp
      · rw [if_neg (by omega)]; simp [h2]
    · have hn : s.data.toList = [] := List.length_eq_zero_iff.mp (by rw [dl]; omega)
      rw [if_neg (by omega), hn]; simp
  | succ d ih =>
    intro i hi ha
    have hl : i < s.data.toList.length := by rw [dl]; omega
    have hb := letterB (s.data.toList[i])
    by_cases hc : signs.contains (s.data.toList[i]) = true
    · refine Ev.step (fun k => ?_) (ih (i + 1) (by omega) (fun c h => ?_))
      · simp only [apostilleref21_part.l0]
        rw [if_pos (by omega), if_pos (Int.natCast_nonneg i), btl s i hl, hb, Option.bind_some, if_pos hc, psucc i (by omega)]
      · rw [List.take_add_one, List.getElem?_eq_getElem hl] at h
        rcases List.mem_append.mp h with h | h
        · exact ha c h
        · have : c = s.data.toList[i] := by simpa using h
          rw [this]; exact hc
    · have hf : okp s.data.toList = false := by
        have : s.data.toList.all (fun c => signs.contains c) = false := by
          rw [← Bool.not_eq_true]
          intro h
          exact hc (List.all_eq_true.mp h _ (List.getElem_mem hl))
        unfold okp
        rw [this, Bool.and_false]
      rw [hf]
      refine Ev.step (f := fun _ => some false) (fun k => ?_) (Ev.now _)
      simp only [apostilleref21_part.l0]
      rw [if_pos (by omega), if_pos (Int.natCast_nonneg i), btl s i hl, hb, Option.bind_some, if_neg hc]
theorem refpartV (s : ByteArray) (hs : s.size < 1000000) : Ev (fun k => apostilleref21_part.f k s) (okp s.data.toList) := refpart_l0 s hs s.size 0 (by omega) (by simp)

/-! the document's way -/
theorem refis_l0 (s : ByteArray) (hs : s.size < 1000000) : ∀ (d i f : Nat), i + d = s.size → f ≤ i → Ev (fun k => apostilleref21_Is.l0 k s (f : Int) (i : Int)) ((pts ((s.data.toList.take i).drop f) (s.data.toList.drop i)).all okp) := by
  intro d
  induction d with
  | zero =>
    intro i f hi hf
    have hp := refpartV (s.extract f i) (by have := dl (s.extract f i); rw [de, List.length_drop, List.length_take, dl] at this; omega)
    rw [de] at hp
    rw [List.drop_of_length_le (show s.data.toList.length ≤ i by rw [dl]; omega)]
    have e : (pts ((s.data.toList.take i).drop f) []).all okp = okp ((s.data.toList.take i).drop f) := by simp [pts]
    rw [e]
    refine Ev.step (f := fun k => apostilleref21_Is.j2 k s (f : Int) (i : Int) true) (fun k => ?_) ?_
    · simp only [apostilleref21_Is.l0]
      rw [if_pos (by omega), if_pos (by omega)]
    · refine Ev.step (f := fun k => (apostilleref21_part.f k (s.extract f i)).bind fun t131 => if t131 = true then apostilleref21_Is.l0 k s (wrap64 ((i : Int) + 1)) (wrap64 ((i : Int) + 1)) else some false) (fun k => ?_) ?_
      · simp only [apostilleref21_Is.j2, Int.toNat_natCast]
        rw [if_pos trivial, if_pos (Int.natCast_nonneg f), if_pos (by omega), if_pos (by omega)]
      · refine Ev.bind (f := fun k t131 => if t131 = true then apostilleref21_Is.l0 k s (wrap64 ((i : Int) + 1)) (wrap64 ((i : Int) + 1)) else some false) hp ?_
        cases hb : okp ((s.data.toList.take i).drop f) with
        | true =>
          refine Ev.congr (fun k => if_pos rfl) (Ev.step (f := fun _ => some true) (fun k => ?_) (Ev.now _))
          simp only [apostilleref21_Is.l0]
          rw [psucc i (by omega), if_neg (by omega)]
        | false => exact Ev.congr (fun k => if_neg (by simp)) (Ev.now _)
  | succ d ih =>
    intro i f hi hf
    have hl : i < s.data.toList.length := by rw [dl]; omega
    have hd : s.data.toList.drop i = s.data.toList[i] :: s.data.toList.drop (i + 1) := List.drop_eq_getElem_cons hl
    have hbt : (bt s (i : Int) == 47) = decide (s.data.toList[i] = 47) := by
      rw [btl s i hl, Bool.eq_iff_iff, beq_iff_eq, decide_eq_true_eq]
      constructor
      · intro h
        apply UInt8.toNat_inj.mp
        have : ((47 : UInt8)).toNat = 47 := rfl
        omega
      · intro h; rw [h]; rfl
    rw [hd]
    refine Ev.step (f := fun k => apostilleref21_Is.j2 k s (f : Int) (i : Int) (decide (s.data.toList[i] = 47))) (fun k => ?_) ?_
    · simp only [apostilleref21_Is.l0]
      rw [if_pos (by omega), if_neg (by omega), if_pos (Int.natCast_nonneg i), if_pos (by omega), hbt]
    · by_cases hc : s.data.toList[i] = 47
      · have hp := refpartV (s.extract f i) (by have := dl (s.extract f i); rw [de, List.length_drop, List.length_take, dl] at this; omega)
        rw [de] at hp
        have e : (pts ((s.data.toList.take i).drop f) (s.data.toList[i] :: s.data.toList.drop (i + 1))).all okp = (okp ((s.data.toList.take i).drop f) && (pts [] (s.data.toList.drop (i + 1))).all okp) := by
          simp only [pts]; rw [if_pos hc, List.all_cons]
        rw [e, decide_eq_true hc]
        refine Ev.step (f := fun k => (apostilleref21_part.f k (s.extract f i)).bind fun t131 => if t131 = true then apostilleref21_Is.l0 k s ((i + 1 : Nat) : Int) ((i + 1 : Nat) : Int) else some false) (fun k => ?_) ?_
        · simp only [apostilleref21_Is.j2, Int.toNat_natCast]
          rw [if_pos trivial, if_pos (Int.natCast_nonneg f), if_pos (by omega), if_pos (by omega), psucc i (by omega)]
        · refine Ev.bind (f := fun k t131 => if t131 = true then apostilleref21_Is.l0 k s ((i + 1 : Nat) : Int) ((i + 1 : Nat) : Int) else some false) hp ?_
          cases hb : okp ((s.data.toList.take i).drop f) with
          | true =>
            have := ih (i + 1) (i + 1) (by omega) (Nat.le_refl _)
            rw [List.drop_of_length_le (show (s.data.toList.take (i + 1)).length ≤ i + 1 by rw [List.length_take]; omega)] at this
            exact Ev.congr (fun k => if_pos rfl) (by rw [Bool.true_and]; exact this)
          | false => exact Ev.congr (fun k => if_neg (by simp)) (Ev.now _)
      · have e : pts ((s.data.toList.take i).drop f) (s.data.toList[i] :: s.data.toList.drop (i + 1)) = pts ((s.data.toList.take (i + 1)).drop f) (s.data.toList.drop (i + 1)) := by
          conv => lhs; simp only [pts]
          rw [if_neg hc, List.take_add_one, List.getElem?_eq_getElem hl, List.drop_append_of_le_length (by rw [List.length_take]; omega)]
          rfl
        rw [e, decide_eq_false hc]
        refine Ev.step (fun k => ?_) (ih (i + 1) f (by omega) (by omega))
        simp only [apostilleref21_Is.j2]
        rw [if_neg (by simp), psucc i (by omega)]
theorem refisV (s : ByteArray) (hs : s.size < 1000000) : Ev (fun k => apostilleref21_Is.f k s) (isL s.data.toList) := by
  unfold apostilleref21_Is.f isL
  rw [dl]
  by_cases h1 : s.size < 1
  · have hn : s.data.toList = [] := List.length_eq_zero_iff.mp (by rw [dl]; omega)
    have e : (pts [] ([] : List UInt8)).all okp = false := by decide
    rw [hn, e, Bool.and_false]
    refine Ev.congr (fun k => if_pos (by omega)) (Ev.step (f := fun _ => some false) (fun k => ?_) (Ev.now _))
    simp only [apostilleref21_Is.j0]
    exact if_pos trivial
  · refine Ev.congr (fun k => if_neg (by omega)) ?_
    by_cases h2 : s.size ≤ 32
    · have c : decide ((s.size : Int) > 32) = false := decide_eq_false (by omega)
      have := refis_l0 s hs s.size 0 0 (by omega) (Nat.le_refl _)
      rw [List.take_zero, List.drop_nil, List.drop_zero] at this
      rw [c, decide_eq_true h2, Bool.true_and]
      refine Ev.step (fun k => ?_) this
      simp only [apostilleref21_Is.j0]
      exact if_neg (by simp)
    · have c : decide ((s.size : Int) > 32) = true := decide_eq_true (by omega)
      rw [c, decide_eq_false h2, Bool.false_and]
      refine Ev.step (f := fun _ => some false) (fun k => ?_) (Ev.now _)
      simp only [apostilleref21_Is.j0]
      exact if_pos trivial
end Go.Proofs.YtenchfkljmodkaaDoor.V
namespace Go.Proofs.YtenchfkljmodkaaDoor.V
open Go.RowKit Go.Proofs.YtenchfkljmodkaaDoor.A Go.Proofs.YtenchfkljmodkaaDoorW.PrintWords Go.Proofs.YtenchfkljmodkaaDoorW.PrintLast
set_option linter.unusedVariables false
set_option linter.unusedSimpArgs false

theorem count_first (a b : List UInt8) (h : 47 ∉ a) : (a ++ 47 :: b).count 47 = b.count 47 + 1 := by
  rw [List.count_append, List.count_cons, if_pos (by rfl), List.count_eq_zero_of_not_mem h]; omega
theorem idx_first (l : List UInt8) (h : 0 < l.count 47) : ∃ o : Nat, Lib.indexByte l 47 = (o : Int) ∧ o < l.length ∧ 47 ∉ l.take o ∧ l = l.take o ++ 47 :: l.drop (o + 1) := by
  have h1 := Lib.indexByte_ge l 47
  by_cases hn : Lib.indexByte l 47 < 0
  · have e : Lib.indexByte l 47 = -1 := by omega
    have h2 := Lib.indexByte_none e
    have h3 : 47 ∈ l := List.count_pos_iff.mp h
    obtain ⟨k, hk, e2⟩ := List.getElem_of_mem h3
    exact absurd (by rw [List.getElem?_eq_getElem hk, e2]) (h2 k)
  · replace hn : 0 ≤ Lib.indexByte l 47 := by omega
    obtain ⟨o, ho⟩ := Int.eq_ofNat_of_zero_le hn
    obtain ⟨h2, h3⟩ := Lib.indexByte_some ho
    obtain ⟨hl, he⟩ := List.getElem?_eq_some_iff.mp h2
    refine ⟨o, ho, hl, ?_, ?_⟩
    · intro hm
      obtain ⟨k, hk, e2⟩ := List.getElem_of_mem hm
      have hk2 : k < o := by rw [List.length_take] at hk; omega
      refine h3 k hk2 ?_
      rw [List.getElem_take] at e2
      rw [List.getElem?_eq_getElem (by omega), e2]
    · have := List.take_append_drop o l
      rw [List.drop_eq_getElem_cons hl, he] at this
      exact this.symm
def dat (s : ByteArray) : List UInt8 := s.data.toList
theorem w_zero (o : Nat) (h : o < 1000000) : wrap64 ((o : Int) + 0) = (o : Int) := by rw [Int.add_zero, pw64 _ (by omega) (by omega)]
theorem w_one (o : Nat) (h : o < 1000000) : wrap64 ((o : Int) + ((⟨#[47]⟩ : ByteArray).size : Int)) = ((o + 1 : Nat) : Int) := by
  have e : ((⟨#[47]⟩ : ByteArray).size : Int) = 1 := rfl
  rw [e, psucc o (by omega)]
theorem gen_l0 (n : Nat) (hn : n < 1000000) : ∀ (d : Nat) (rest : ByteArray) (i : Nat) (x9 : List ByteArray), (dat rest).count 47 = d → i + d + 1 = n → x9.length = n → rest.size < 1000000 →
    ∃ r : List ByteArray, r.map dat = (x9.take i).map dat ++ pts [] (dat rest) ∧ Ev (fun k => strings_genSplit.l0 k rest (⟨#[47]⟩ : ByteArray) 0 (((n - 1 : Nat)) : Int) x9 (i : Int)) r := by
  intro d
  induction d with
  | zero =>
    intro rest i x9 hc hi hx hs
    have hno : 47 ∉ dat rest := fun h => by have := List.count_pos_iff.mpr h; omega
    refine ⟨(x9.set i rest).take (i + 1), ?_, ?_⟩
    · rw [pts_one [] _ hno, List.nil_append, List.take_add_one, List.getElem?_set_self (by omega), List.take_set_of_le (Nat.le_refl i), List.map_append]
      rfl
    · refine Ev.step (f := fun _ => some ((x9.set i rest).take (i + 1))) (fun k => ?_) (Ev.now _)
      simp only [strings_genSplit.l0]
      rw [if_neg (by omega), psucc i (by omega)]
      simp only [Int.toNat_natCast]
      rw [if_pos (Int.natCast_nonneg i), if_pos (by omega), if_pos (Int.natCast_nonneg _), if_pos (by omega)]
  | succ d ih =>
    intro rest i x9 hc hi hx hs
    obtain ⟨o, ho, hol, hno, he⟩ := idx_first (dat rest) (by omega)
    have hlen : (dat rest).length = rest.size := dl rest
    have hr2 : dat (rest.extract (o + 1) rest.size) = (dat rest).drop (o + 1) := by
      unfold dat; rw [de, ← dl, List.take_length]
    have hr1 : dat (rest.extract 0 o) = (dat rest).take o := by unfold dat; rw [de, List.drop_zero]
    have hsz2 : (rest.extract (o + 1) rest.size).size = rest.size - (o + 1) := by
      have := dl (rest.extract (o + 1) rest.size)
      have e : (rest.extract (o + 1) rest.size).data.toList = (dat rest).drop (o + 1) := hr2
      rw [e, List.length_drop, hlen] at this
      exact this.symm
    have hcnt : ((dat rest).drop (o + 1)).count 47 = d := by
      have := count_first ((dat rest).take o) ((dat rest).drop (o + 1)) hno
      rw [← he] at this
      omega
    obtain ⟨r, h1, h2⟩ := ih (rest.extract (o + 1) rest.size) (i + 1) (x9.set i (rest.extract 0 o)) (by rw [hr2]; exact hcnt) (by omega) (by rw [List.length_set]; exact hx) (by rw [hsz2]; omega)
    refine ⟨r, ?_, Ev.step (fun k => ?_) h2⟩
    · rw [h1, hr2, List.take_add_one, List.getElem?_set_self (by omega), List.take_set_of_le (Nat.le_refl i), List.map_append]
      have e2 : pts [] (dat rest) = (dat rest).take o :: pts [] ((dat rest).drop (o + 1)) := by
        conv => lhs; rw [he]
        exact pts_first _ _ hno
      rw [e2, List.append_assoc]
      show _ ++ ([rest.extract 0 o].map dat ++ _) = _
      rw [List.map_singleton, hr1]
      rfl
    · have hI : strings_Index.f rest (⟨#[47]⟩ : ByteArray) = some (o : Int) := by
        unfold strings_Index.f
        rw [if_pos (by rfl)]
        exact congrArg some ho
      have ol : o < 1000000 := by omega
      have il : i < 4611686018427387904 := by omega
      have c1 : (i : Int) < ((n - 1 : Nat) : Int) := by omega
      have c2 : ¬ (o : Int) < 0 := by omega
      have c3 : (o : Int) ≤ (rest.size : Int) := by omega
      have c4 : (i : Int) < (x9.length : Int) := by omega
      have c5 : ((o + 1 : Nat) : Int) ≤ (rest.size : Int) := by omega
      simp only [strings_genSplit.l0]
      rw [if_pos c1, hI, Option.bind_some, if_neg c2, w_zero o ol, w_one o ol, psucc i il]
      simp only [Int.toNat_natCast]
      rw [if_pos (Int.natCast_nonneg o), if_pos c3, if_pos (Int.natCast_nonneg i), if_pos c4, if_pos (Int.natCast_nonneg _), if_pos c5]
theorem splitV (s : ByteArray) (hs : s.size < 100000) : ∃ r : List ByteArray, r.map dat = pts [] (dat s) ∧ Ev (fun k => strings_Split.f k s (⟨#[47]⟩ : ByteArray)) r := by
  have hcl : (dat s).count 47 ≤ s.size := by rw [← dl]; exact List.count_le_length
  obtain ⟨r, h1, h2⟩ := gen_l0 ((dat s).count 47 + 1) (by omega) ((dat s).count 47) s 0 (List.replicate ((dat s).count 47 + 1) (⟨#[]⟩ : ByteArray)) rfl (by omega) (by simp) (by omega)
  rw [List.take_zero, List.map_nil, List.nil_append] at h1
  have hC : strings_Count.f s (⟨#[47]⟩ : ByteArray) = some (((dat s).count 47 : Nat) : Int) := by
    unfold strings_Count.f
    rw [if_pos (by rfl)]
    rfl
  refine ⟨r, h1, ?_⟩
  generalize (dat s).count 47 = c at *
  unfold strings_Split.f
  refine Ev.bind (a := r) (f := fun _ t => some t) ?_ (Ev.now _)
  unfold strings_genSplit.f
  rw [hC]
  have w1 : wrap64 ((c : Int) + 1) = ((c + 1 : Nat) : Int) := psucc c (by omega)
  have w0 : wrap64 ((s.size : Int) + 1) = ((s.size + 1 : Nat) : Int) := psucc s.size (by omega)
  have w2 : mn ((c + 1 : Nat) : Int) ((s.size + 1 : Nat) : Int) = ((c + 1 : Nat) : Int) := by
    unfold mn; split <;> omega
  have w3 : wrap64 (((c + 1 : Nat) : Int) - 1) = ((c + 1 - 1 : Nat) : Int) := by rw [pw64 _ (by omega) (by omega)]; omega
  refine Ev.congr (fun k => if_neg (by decide)) ?_
  refine Ev.congr (fun k => if_neg (by rw [tl]; decide)) ?_
  refine Ev.congr (fun k => if_pos (by decide)) ?_
  refine Ev.congr (f := fun k => strings_genSplit.j0 k s (⟨#[47]⟩ : ByteArray) 0 ((c + 1 : Nat) : Int)) (fun k => by rw [Option.bind_some, w1]) ?_
  refine Ev.step (fun k => ?_) h2
  simp only [strings_genSplit.j0, w0, w2, w3, Int.toNat_natCast]
  rw [if_pos (Int.natCast_nonneg _), if_pos (by omega)]
  rfl
theorem odd_l0 (r : List ByteArray) (hr : r.length < 1000000) : ∀ (d i : Nat), i + d = r.length → ∃ v : Int, (decide (v ≥ 0)) = ((r.drop i).any fun s => !okp (dat s)) ∧ Ev (fun k => slices_IndexFunc_string_string.l0 k r (r.length : Int) (i : Int)) v := by
  intro d
  induction d with
  | zero =>
    intro i hi
    refine ⟨-1, ?_, Ev.step (f := fun _ => some (-1)) (fun k => ?_) (Ev.now _)⟩
    · rw [List.drop_of_length_le (by omega)]; rfl
    · simp only [slices_IndexFunc_string_string.l0]
      exact if_neg (by omega)
  | succ d ih =>
    intro i hi
    have hl : i < r.length := by omega
    have hf : path_Is_1.f r[i] = some (!okp (dat r[i])) := by unfold path_Is_1.f; rw [partV]; rfl
    rw [List.drop_eq_getElem_cons hl, List.any_cons]
    cases hb : (!okp (dat r[i])) with
    | true =>
      refine ⟨(i : Int), by rw [Bool.true_or]; exact decide_eq_true (by omega), Ev.step (f := fun _ => some (i : Int)) (fun k => ?_) (Ev.now _)⟩
      simp only [slices_IndexFunc_string_string.l0]
      rw [if_pos (by omega), if_pos (Int.natCast_nonneg i), if_pos (by omega), rdo r i hl, hf, hb]
      rfl
    | false =>
      obtain ⟨v, h1, h2⟩ := ih (i + 1) (by omega)
      refine ⟨v, by rw [Bool.false_or]; exact h1, Ev.step (fun k => ?_) h2⟩
      simp only [slices_IndexFunc_string_string.l0]
      rw [if_pos (by omega), if_pos (Int.natCast_nonneg i), if_pos (by omega), rdo r i hl, hf, hb, psucc i (by omega)]
      rfl
theorem all_any : ∀ r : List ByteArray, (r.map dat).all okp = !(r.any fun s => !okp (dat s))
  | [] => rfl
  | x :: r => by rw [List.map_cons, List.all_cons, List.any_cons, all_any r, Bool.not_or, Bool.not_not]
theorem isV (s : ByteArray) : Ev (fun k => path_Is.f k s) (isL (dat s)) := by
  unfold path_Is.f isL
  have e0 : (dat s).length = s.size := dl s
  rw [e0]
  by_cases h : s.size ≤ 32
  · obtain ⟨r, h1, h2⟩ := splitV s (by omega)
    have hlen : r.length < 1000000 := by
      have e1 : r.length = (pts [] (dat s)).length := by rw [← h1, List.length_map]
      have e2 : ∀ (l cur : List UInt8), (pts cur l).length ≤ l.length + 1 := by
        intro l
        induction l with
        | nil => intro cur; simp [pts]
        | cons c l ih =>
          intro cur
          simp only [pts]
          split
          · have := ih []; simp only [List.length_cons]; omega
          · have := ih (cur ++ [c]); simp only [List.length_cons]; omega
      have := e2 (dat s) []
      omega
    obtain ⟨v, h3, h4⟩ := odd_l0 r hlen r.length 0 (by omega)
    rw [List.drop_zero] at h3
    have hc : Ev (fun k => slices_ContainsFunc_string_string.f k r) (decide (v ≥ 0)) := by
      unfold slices_ContainsFunc_string_string.f
      exact Ev.bind (a := v) (f := fun _ t => some (decide (t ≥ 0))) h4 (Ev.now _)
    have e3 : (pts [] (dat s)).all okp = !decide (v ≥ 0) := by
      rw [h3, ← h1, all_any]
    rw [decide_eq_true h, Bool.true_and, e3]
    refine Ev.congr (fun k => if_pos (by omega)) ?_
    refine Ev.bind (a := r) (f := fun k t126 => (slices_ContainsFunc_string_string.f k t126).bind fun t129 => some (!t129)) h2 ?_
    exact Ev.bind (a := decide (v ≥ 0)) (f := fun _ t129 => some (!t129)) hc (Ev.now _)
  · rw [decide_eq_false h, Bool.false_and]
    exact Ev.congr (f := fun _ => some false) (fun k => if_neg (by omega)) (Ev.now _)

/-! all together -/
/-- is b the path a, or one behind it? -/
def clash (a b : List UInt8) : Bool := decide (b = a) || decide (b.take (a.length + 1) = a ++ [47])
def inn (a : List UInt8) (i : Nat) : List (List UInt8) → Nat → Bool
  | [], _ => true
  | b :: r, j => (decide (j = i) || !clash a b) && inn a i r (j + 1)
def outA (X : List (List UInt8)) : List (List UInt8) → Nat → Bool
  | [], _ => true
  | a :: r, i => isL a && (inn a i X 0 && outA X r (i + 1))
def allL (X : List (List UInt8)) : Bool := outA X X 0
theorem prefixV (x p : ByteArray) : strings_HasPrefix.f x p = some (decide ((dat x).take (dat p).length = dat p)) := by
  unfold strings_HasPrefix.f stringslite_HasPrefix.f
  have e1 : (dat p).length = p.size := dl p
  have e2 : (dat x).length = x.size := dl x
  by_cases h : x.size ≥ p.size
  · rw [if_pos (by omega), if_pos (Int.natCast_nonneg _), if_pos (by omega), Option.bind_some, Int.toNat_natCast, tl, tl, de, List.drop_zero, e1]
    congr 1
    rw [Bool.eq_iff_iff, beq_iff_eq, decide_eq_true_eq]
    exact Iff.rfl
  · rw [if_neg (by omega), Option.bind_some]
    congr 1
    symm
    apply decide_eq_false
    intro he
    have := congrArg List.length he
    rw [List.length_take] at this
    omega
theorem all_l1 (X : List ByteArray) (hX : X.length < 1000000) (i : Nat) (s : ByteArray) (hs : s.size < 1000000000000) (R : Bool) (hR : Ev (fun k => path_All.l0 k X X (X.length : Int) ((i + 1 : Nat) : Int)) R) (hi : i < 1000000) :
    ∀ (d j : Nat), j + d = X.length → Ev (fun k => path_All.l1 k X (i : Int) s X (X.length : Int) (i : Int) X (X.length : Int) (j : Int)) (inn (dat s) i ((X.drop j).map dat) j && R) := by
  intro d
  induction d with
  | zero =>
    intro j hj
    rw [List.drop_of_length_le (by omega)]
    refine Ev.step (fun k => ?_) (show Ev _ (true && R) by rw [Bool.true_and]; exact hR)
    simp only [path_All.l1]
    rw [if_neg (by omega), psucc i (by omega)]
  | succ d ih =>
    intro j hj
    have hl : j < X.length := by omega
    have ih' := ih (j + 1) (by omega)
    rw [List.drop_eq_getElem_cons hl, List.map_cons]
    have e0 : inn (dat s) i (dat X[j] :: (X.drop (j + 1)).map dat) j = ((decide (j = i) || !clash (dat s) (dat X[j])) && inn (dat s) i ((X.drop (j + 1)).map dat) (j + 1)) := rfl
    rw [e0]
    by_cases hji : j = i
    · rw [decide_eq_true hji, Bool.true_or, Bool.true_and]
      refine Ev.step (fun k => ?_) ih'
      simp only [path_All.l1]
      rw [if_pos (by omega), if_pos (Int.natCast_nonneg j), if_pos (by omega), if_pos (by omega), psucc j (by omega)]
    · rw [decide_eq_false hji, Bool.false_or]
      by_cases he : dat X[j] = dat s
      · have hc : clash (dat s) (dat X[j]) = true := by unfold clash; rw [decide_eq_true he, Bool.true_or]
        rw [hc]
        refine Ev.step (f := fun _ => some false) (fun k => ?_) (Ev.now _)
        simp only [path_All.l1]
        rw [if_pos (by omega), if_pos (Int.natCast_nonneg j), if_pos (by omega), if_neg (by omega), rdo X j hl, if_pos (by rw [tl, tl]; exact he)]
      · have hp := prefixV X[j] (s ++ (⟨#[47]⟩ : ByteArray))
        have e1 : dat (s ++ (⟨#[47]⟩ : ByteArray)) = dat s ++ [47] := da s _
        rw [e1, List.length_append, List.length_singleton] at hp
        have hc : clash (dat s) (dat X[j]) = decide ((dat X[j]).take ((dat s).length + 1) = dat s ++ [47]) := by unfold clash; rw [decide_eq_false he, Bool.false_or]
        rw [← hc] at hp
        cases hcl : clash (dat s) (dat X[j]) with
        | true =>
          rw [hcl] at hp
          refine Ev.step (f := fun _ => some false) (fun k => ?_) (Ev.now _)
          simp only [path_All.l1]
          rw [if_pos (by omega), if_pos (Int.natCast_nonneg j), if_pos (by omega), if_neg (by omega), rdo X j hl, if_neg (by rw [tl, tl]; exact he), if_pos (by omega), hp]
          rfl
        | false =>
          rw [hcl] at hp
          refine Ev.step (fun k => ?_) (show Ev _ ((!false && inn (dat s) i ((X.drop (j + 1)).map dat) (j + 1)) && R) by exact ih')
          simp only [path_All.l1]
          rw [if_pos (by omega), if_pos (Int.natCast_nonneg j), if_pos (by omega), if_neg (by omega), rdo X j hl, if_neg (by rw [tl, tl]; exact he), if_pos (by omega), hp, psucc j (by omega)]
          rfl
theorem isL_sz (s : ByteArray) (h : isL (dat s) = true) : s.size ≤ 32 := by
  have e : (dat s).length = s.size := dl s
  unfold isL at h
  simp only [Bool.and_eq_true, decide_eq_true_eq] at h
  omega
theorem all_l0 (X : List ByteArray) (hX : X.length < 1000000) : ∀ (d i : Nat), i + d = X.length → Ev (fun k => path_All.l0 k X X (X.length : Int) (i : Int)) (outA (X.map dat) ((X.drop i).map dat) i) := by
  intro d
  induction d with
  | zero =>
    intro i hi
    rw [List.drop_of_length_le (by omega)]
    refine Ev.step (f := fun _ => some true) (fun k => ?_) (Ev.now _)
    simp only [path_All.l0]
    exact if_neg (by omega)
  | succ d ih =>
    intro i hi
    have hl : i < X.length := by omega
    rw [List.drop_eq_getElem_cons hl, List.map_cons]
    have e0 : outA (X.map dat) (dat X[i] :: (X.drop (i + 1)).map dat) i = (isL (dat X[i]) && (inn (dat X[i]) i (X.map dat) 0 && outA (X.map dat) ((X.drop (i + 1)).map dat) (i + 1))) := rfl
    rw [e0]
    refine Ev.step (f := fun k => (path_Is.f k X[i]).bind fun t134 => (if t134 = true then (path_All.l1 k X (i : Int) X[i] X (X.length : Int) (i : Int) X (X.length : Int) 0) else (some false))) (fun k => ?_) ?_
    · simp only [path_All.l0]
      rw [if_pos (by omega), if_pos (Int.natCast_nonneg i), if_pos (by omega), rdo X i hl]
    · refine Ev.bind (f := fun k t134 => (if t134 = true then (path_All.l1 k X (i : Int) X[i] X (X.length : Int) (i : Int) X (X.length : Int) 0) else (some false))) (isV X[i]) ?_
      cases hb : isL (dat X[i]) with
      | true =>
        have hin := all_l1 X hX i X[i] (by have := isL_sz _ hb; omega) _ (ih (i + 1) (by omega)) (by omega) X.length 0 (by omega)
        rw [List.drop_zero] at hin
        exact Ev.congr (fun k => if_pos rfl) (by rw [Bool.true_and]; exact hin)
      | false => exact Ev.congr (fun k => if_neg (by simp)) (Ev.now _)
theorem allA (X : List ByteArray) (hX : X.length < 1000000) : Ev (fun k => path_All.f k X) (allL (X.map dat)) := by
  have := all_l0 X hX X.length 0 (by omega)
  rwa [List.drop_zero] at this
theorem allV (X : List ByteArray) (hX : X.length < 1000000) (hs : ∀ s ∈ X, s.size < 1000000000000) : Ev (fun k => path_All.f k X) (allL (X.map dat)) := by
  exact allA X hX
end Go.Proofs.YtenchfkljmodkaaDoor.V
namespace Go.Proofs.YtenchfkljmodkaaDoor.V
open Go.RowKit Go.Proofs.YtenchfkljmodkaaDoor.A Go.Proofs.YtenchfkljmodkaaDoorW.PrintWords Go.Proofs.YtenchfkljmodkaaDoorW.PrintLast
set_option linter.unusedVariables false
set_option linter.unusedSimpArgs false

theorem take_snoc (a b : List UInt8) (h : a.length < b.length) : (b.take (a.length + 1) = a ++ [47]) ↔ (b.take a.length = a ∧ b[a.length] = 47) := by
  rw [List.take_add_one, List.getElem?_eq_getElem h]
  constructor
  · intro e
    have h1 := List.append_inj e (by rw [List.length_take]; omega)
    exact ⟨h1.1, by simpa using h1.2⟩
  · rintro ⟨h1, h2⟩
    rw [h1, h2]
    rfl
theorem refall_l1 (X : List ByteArray) (hX : X.length < 1000000) (i : Nat) (hi : i < X.length) (R : Bool) (hR : Ev (fun k => apostilleref21_All.l0 k X ((i + 1 : Nat) : Int)) R) :
    ∀ (d j : Nat), j + d = X.length → Ev (fun k => apostilleref21_All.l1 k X (i : Int) (j : Int)) (inn (dat X[i]) i ((X.drop j).map dat) j && R) := by
  have ci : (i : Int) < (X.length : Int) := by omega
  intro d
  induction d with
  | zero =>
    intro j hj
    rw [List.drop_of_length_le (by omega)]
    refine Ev.step (fun k => ?_) (show Ev _ (true && R) by rw [Bool.true_and]; exact hR)
    simp only [apostilleref21_All.l1]
    rw [if_neg (by omega), psucc i (by omega)]
  | succ d ih =>
    intro j hj
    have hl : j < X.length := by omega
    have cj : (j : Int) < (X.length : Int) := by omega
    have ih' := ih (j + 1) (by omega)
    have pj := psucc j (by omega)
    rw [List.drop_eq_getElem_cons hl, List.map_cons]
    have e0 : inn (dat X[i]) i (dat X[j] :: (X.drop (j + 1)).map dat) j = ((decide (j = i) || !clash (dat X[i]) (dat X[j])) && inn (dat X[i]) i ((X.drop (j + 1)).map dat) (j + 1)) := rfl
    rw [e0]
    have z1 : (dat X[i]).length = X[i].size := dl X[i]
    have z2 : (dat X[j]).length = X[j].size := dl X[j]
    by_cases hji : j = i
    · rw [decide_eq_true hji, Bool.true_or, Bool.true_and]
      refine Ev.step (fun k => ?_) ih'
      simp only [apostilleref21_All.l1]
      rw [if_pos cj, if_pos (Int.natCast_nonneg i), if_pos ci, if_pos (Int.natCast_nonneg j), if_pos (by rw [hji]), pj]
    · rw [decide_eq_false hji, Bool.false_or]
      have nji : ¬ (j : Int) = (i : Int) := fun h => hji (Int.ofNat_inj.mp h)
      by_cases he : dat X[i] = dat X[j]
      · have hc : clash (dat X[i]) (dat X[j]) = true := by unfold clash; rw [decide_eq_true he.symm, Bool.true_or]
        rw [hc]
        refine Ev.step (f := fun _ => some false) (fun k => ?_) (Ev.now _)
        simp only [apostilleref21_All.l1, tl, rdo X i hi, rdo X j hl]
        rw [if_pos cj, if_pos (Int.natCast_nonneg i), if_pos ci, if_pos (Int.natCast_nonneg j), if_neg nji, if_pos (show X[i].data.toList = X[j].data.toList from he)]
      · have hc : clash (dat X[i]) (dat X[j]) = decide ((dat X[j]).take ((dat X[i]).length + 1) = dat X[i] ++ [47]) := by unfold clash; rw [decide_eq_false (fun h => he h.symm), Bool.false_or]
        rw [hc]
        by_cases hsz : X[i].size < X[j].size
        · have hlt : (dat X[i]).length < (dat X[j]).length := by rw [z1, z2]; exact hsz
          have ht := take_snoc (dat X[i]) (dat X[j]) hlt
          have hex : (X[j].extract 0 X[i].size).data.toList = (dat X[j]).take (dat X[i]).length := by rw [de, List.drop_zero, z1]; rfl
          have hb : bt X[j] (X[i].size : Int) = (((dat X[j])[(dat X[i]).length]).toNat : Int) := by
            have := btl X[j] X[i].size (by rw [dl]; exact hsz)
            rw [this]
            simp only [z1]
            rfl
          by_cases hp : (dat X[j]).take (dat X[i]).length = dat X[i]
          · by_cases hq : (dat X[j])[(dat X[i]).length] = 47
            · rw [decide_eq_true (ht.mpr ⟨hp, hq⟩)]
              refine Ev.step (f := fun _ => some false) (fun k => ?_) (Ev.now _)
              simp only [apostilleref21_All.l1, tl, rdo X i hi, rdo X j hl, Int.toNat_natCast]
              rw [if_pos cj, if_pos (Int.natCast_nonneg i), if_pos ci, if_pos (Int.natCast_nonneg j), if_neg nji, if_neg (show ¬ X[i].data.toList = X[j].data.toList from he), if_pos (Int.ofNat_lt.mpr hsz), if_pos (Int.natCast_nonneg _), if_pos (Int.ofNat_le.mpr (Nat.le_of_lt hsz)), if_pos (by rw [hex]; exact hp), if_pos (Int.ofNat_lt.mpr hsz), if_pos (by rw [hb, hq]; rfl)]
            · rw [decide_eq_false (fun h => hq (ht.mp h).2)]
              refine Ev.step (fun k => ?_) (show Ev _ ((!false && inn (dat X[i]) i ((X.drop (j + 1)).map dat) (j + 1)) && R) by exact ih')
              have hq2 : ¬ bt X[j] (X[i].size : Int) = 47 := fun h => hq (by
                apply UInt8.toNat_inj.mp
                rw [hb] at h
                have : ((47 : UInt8)).toNat = 47 := rfl
                omega)
              simp only [apostilleref21_All.l1, tl, rdo X i hi, rdo X j hl, Int.toNat_natCast]
              rw [if_pos cj, if_pos (Int.natCast_nonneg i), if_pos ci, if_pos (Int.natCast_nonneg j), if_neg nji, if_neg (show ¬ X[i].data.toList = X[j].data.toList from he), if_pos (Int.ofNat_lt.mpr hsz), if_pos (Int.natCast_nonneg _), if_pos (Int.ofNat_le.mpr (Nat.le_of_lt hsz)), if_pos (by rw [hex]; exact hp), if_pos (Int.ofNat_lt.mpr hsz), if_neg hq2, pj]
          · rw [decide_eq_false (fun h => hp (ht.mp h).1)]
            refine Ev.step (fun k => ?_) (show Ev _ ((!false && inn (dat X[i]) i ((X.drop (j + 1)).map dat) (j + 1)) && R) by exact ih')
            simp only [apostilleref21_All.l1, tl, rdo X i hi, rdo X j hl, Int.toNat_natCast]
            rw [if_pos cj, if_pos (Int.natCast_nonneg i), if_pos ci, if_pos (Int.natCast_nonneg j), if_neg nji, if_neg (show ¬ X[i].data.toList = X[j].data.toList from he), if_pos (Int.ofNat_lt.mpr hsz), if_pos (Int.natCast_nonneg _), if_pos (Int.ofNat_le.mpr (Nat.le_of_lt hsz)), if_neg (by rw [hex]; exact hp), pj]
        · have hno : ¬ (dat X[j]).take ((dat X[i]).length + 1) = dat X[i] ++ [47] := by
            intro h
            have := congrArg List.length h
            rw [List.length_take, List.length_append, List.length_singleton] at this
            omega
          rw [decide_eq_false hno]
          refine Ev.step (fun k => ?_) (show Ev _ ((!false && inn (dat X[i]) i ((X.drop (j + 1)).map dat) (j + 1)) && R) by exact ih')
          simp only [apostilleref21_All.l1, tl, rdo X i hi, rdo X j hl]
          rw [if_pos cj, if_pos (Int.natCast_nonneg i), if_pos ci, if_pos (Int.natCast_nonneg j), if_neg nji, if_neg (show ¬ X[i].data.toList = X[j].data.toList from he), if_neg (fun h => hsz (Int.ofNat_lt.mp h)), pj]
theorem refis_big (s : ByteArray) (h : ¬ s.size < 1000000) : Ev (fun k => apostilleref21_Is.f k s) false := by
  unfold apostilleref21_Is.f
  refine Ev.congr (fun k => if_neg (by omega)) ?_
  have c : decide ((s.size : Int) > 32) = true := decide_eq_true (by omega)
  rw [c]
  refine Ev.step (f := fun _ => some false) (fun k => ?_) (Ev.now _)
  simp only [apostilleref21_Is.j0]
  exact if_pos trivial
theorem isL_big (s : ByteArray) (h : ¬ s.size < 1000000) : isL (dat s) = false := by
  have e : (dat s).length = s.size := dl s
  unfold isL
  rw [decide_eq_false (by omega), Bool.false_and]
theorem refisAll (s : ByteArray) : Ev (fun k => apostilleref21_Is.f k s) (isL (dat s)) := by
  by_cases h : s.size < 1000000
  · exact refisV s h
  · rw [isL_big s h]; exact refis_big s h
theorem refall_l0 (X : List ByteArray) (hX : X.length < 1000000) : ∀ (d i : Nat), i + d = X.length → Ev (fun k => apostilleref21_All.l0 k X (i : Int)) (outA (X.map dat) ((X.drop i).map dat) i) := by
  intro d
  induction d with
  | zero =>
    intro i hi
    rw [List.drop_of_length_le (by omega)]
    refine Ev.step (f := fun _ => some true) (fun k => ?_) (Ev.now _)
    simp only [apostilleref21_All.l0]
    exact if_neg (by omega)
  | succ d ih =>
    intro i hi
    have hl : i < X.length := by omega
    rw [List.drop_eq_getElem_cons hl, List.map_cons]
    have e0 : outA (X.map dat) (dat X[i] :: (X.drop (i + 1)).map dat) i = (isL (dat X[i]) && (inn (dat X[i]) i (X.map dat) 0 && outA (X.map dat) ((X.drop (i + 1)).map dat) (i + 1))) := rfl
    rw [e0]
    have hin := refall_l1 X hX i hl _ (ih (i + 1) (by omega)) X.length 0 (by omega)
    rw [List.drop_zero] at hin
    refine Ev.step (f := fun k => (apostilleref21_Is.f k X[i]).bind fun t138 => (if t138 = true then (apostilleref21_All.l1 k X (i : Int) 0) else (some false))) (fun k => ?_) ?_
    · simp only [apostilleref21_All.l0, rdo X i hl]
      rw [if_pos (by omega), if_pos (Int.natCast_nonneg i)]
    · refine Ev.bind (a := isL (dat X[i])) (f := fun k t138 => (if t138 = true then (apostilleref21_All.l1 k X (i : Int) 0) else (some false))) (refisAll X[i]) ?_
      cases hb : isL (dat X[i]) with
      | true => exact Ev.congr (fun k => if_pos rfl) (by rw [Bool.true_and]; exact hin)
      | false => exact Ev.congr (fun k => if_neg (by simp)) (Ev.now _)
theorem refallA (X : List ByteArray) (hX : X.length < 1000000) : Ev (fun k => apostilleref21_All.f k X) (allL (X.map dat)) := by
  have := refall_l0 X hX X.length 0 (by omega)
  rwa [List.drop_zero] at this
/-! what is known -/
theorem isV' (s : ByteArray) (b : Bool) (h : isL (dat s) = b) : Ev (fun k => path_Is.f k s) b := by rw [← h]; exact isV s
theorem allV' (X : List ByteArray) (b : Bool) (hX : X.length < 1000000) (hs : ∀ s ∈ X, s.size < 1000000000000) (h : allL (X.map dat) = b) : Ev (fun k => path_All.f k X) b := by rw [← h]; exact allV X hX hs
theorem mem2 {a b : ByteArray} {n : Nat} (h1 : a.size < n) (h2 : b.size < n) : ∀ s ∈ ([a, b] : List ByteArray), s.size < n := by
  intro s hs
  simp only [List.mem_cons, List.not_mem_nil, or_false] at hs
  rcases hs with h | h <;> subst h <;> assumption
theorem pknown : Ev (fun k => apostillelaw21_known.f k) true := by
  unfold apostillelaw21_known.f
  refine Ev.bind (a := true) (f := fun k t141 => _) (isV' _ _ (by decide)) ?_
  refine Ev.congr (fun k => if_pos rfl) ?_
  refine Ev.bind (a := false) (f := fun k t142 => _) (isV' _ _ (by decide)) ?_
  refine Ev.congr (fun k => if_neg (by decide)) ?_
  refine Ev.bind (a := false) (f := fun k t143 => _) (isV' _ _ (by decide)) ?_
  refine Ev.congr (fun k => if_neg (by decide)) ?_
  refine Ev.bind (a := false) (f := fun k t144 => _) (isV' _ _ (by decide)) ?_
  refine Ev.congr (fun k => if_neg (by decide)) ?_
  refine Ev.bind (a := true) (f := fun k t148 => _) (allV' _ _ (by decide) (mem2 (by decide) (by decide)) (by decide)) ?_
  refine Ev.congr (fun k => if_pos rfl) ?_
  exact Ev.bind (a := false) (f := fun k t152 => some (!t152)) (allV' _ _ (by decide) (mem2 (by decide) (by decide)) (by decide)) (Ev.now _)
theorem pknown1 : Ev (fun k => (apostillelaw21_known.f k).bind fun t => some t) true := Ev.bind (a := true) (f := fun _ t => some t) pknown (Ev.now _)
end Go.Proofs.YtenchfkljmodkaaDoor.V
