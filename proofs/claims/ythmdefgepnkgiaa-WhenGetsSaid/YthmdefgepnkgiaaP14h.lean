/- Things as times, plainly: both texts tell the same. Conditions: bytes. -/
import Derived.Test.YthmdefgepnkgiaaP14g
namespace Go.Proofs.Ythmdefgepnkgiaa.Eng
open Go
set_option linter.unusedSimpArgs false
set_option maxRecDepth 100000
def fail2 : Res := (AV.tup [(false, [CV.d (DV.int IntKind.i64 0)]), (false, [CV.d (DV.bool false)])], [])
def enc2 (r : Int × Bool) : Res := (AV.tup [(false, [CV.d (DV.int IntKind.i64 r.1)]), (false, [CV.d (DV.bool r.2)])], [])
noncomputable def rTail (M N : Nat) (y a : Int) (b : List Int) (c : List (List DV)) (f0 f1 f2 f3 f4 : Int) : Option Res :=
  bif ltI y 1950 then some fail2 else bif ltI f0 1 then some fail2 else bif ltI 12 f0 then some fail2 else
    ref14_Get_l2 M (ref14_number_F M N) (ref14_long_F M N) (ref14_days_F M N) (ref14_Time_F M N) (fun w120 w121 w122 w123 w124 w125 w126 w127 w128 w129 => ref14_Get_l4 M (ref14_number_F M N) (ref14_long_F M N) (ref14_days_F M N) (ref14_Time_F M N) ((fun w130 w131 w132 w133 w134 w135 w136 w137 w138 => bindG (ref14_Time_F M N (IntKind.wrap IntKind.i64 (IntKind.wrap IntKind.i64 (IntKind.wrap IntKind.i64 (IntKind.wrap IntKind.i64 (IntKind.wrap IntKind.i64 (w130 + w135) - 1) * 86400) + IntKind.wrap IntKind.i64 (IntKind.wrap IntKind.i64 (IntKind.wrap IntKind.i64 (w136 * 3600) + IntKind.wrap IntKind.i64 (w137 * 60)) + w138)) - 631152000))) (fun r139 => bif !eqI r139.fst w131 then (some (AV.tup [(false, [CV.d (DV.int IntKind.i64 0)]), (false, [CV.d (DV.bool false)])], [])) else (bif leN (List.length r139.snd.fst) 140737488355328 then (bif leN (List.length w132) 140737488355328 then (bif !eqS (bytesOf r139.snd.fst) (bytesOf w132) then (some (AV.tup [(false, [CV.d (DV.int IntKind.i64 0)]), (false, [CV.d (DV.bool false)])], [])) else (some (AV.tup [(false, [CV.d (DV.int IntKind.i64 (IntKind.wrap IntKind.i64 (IntKind.wrap IntKind.i64 (IntKind.wrap IntKind.i64 (IntKind.wrap IntKind.i64 (IntKind.wrap IntKind.i64 (w130 + w135) - 1) * 86400) + IntKind.wrap IntKind.i64 (IntKind.wrap IntKind.i64 (IntKind.wrap IntKind.i64 (w136 * 3600) + IntKind.wrap IntKind.i64 (w137 * 60)) + w138)) - 631152000)))]), (false, [CV.d (DV.bool true)])], []))) else (none)) else (none))))) (M) (w120) (w121) (1) (w122) (w123) (w124) (w125) (w126) (w127) (w128) (w129)) M y 0 1950 a b c f0 f1 f2 f3 f4
theorem rTail_eq (M N : Nat) (hM : 10001 < M) (y a : Int) (b : List Int) (c : List (List DV)) (f0 f1 f2 f3 f4 : Int) (hb : b.length ≤ 1000) (hy : y ≤ 9999) (h0 : f0 ≤ 99) (h1 : -1 ≤ f1 ∧ f1 ≤ 99) (h2 : -1 ≤ f2 ∧ f2 ≤ 99) (h3 : -1 ≤ f3 ∧ f3 ≤ 99) (h4 : -1 ≤ f4 ∧ f4 ≤ 99) :
    rTail M N y a b c f0 f1 f2 f3 f4 = some (bif ltI y 1950 || ltI f0 1 || ltI 12 f0 then fail2 else enc2 (chk (unixP y f0 f1 f2 f3 f4) a b)) := by
  unfold rTail
  by_cases g1 : y < 1950
  · rw [ltI_true g1]; rfl
  by_cases g2 : f0 < 1
  · rw [ltI_false g1, ltI_true g2]; rfl
  by_cases g3 : 12 < f0
  · rw [ltI_false g1, ltI_false g2, ltI_true g3]; rfl
  rw [ltI_false g1, ltI_false g2, ltI_false g3]
  simp only [cond_false, Bool.or_self]
  obtain ⟨J, rfl⟩ : ∃ J : Nat, f0 = ((J + 1 : Nat) : Int) := ⟨f0.toNat - 1, by omega⟩
  have hA := A_le (show 1 ≤ y by omega) (show y ≤ 10000 by omega)
  have hA2 := A_mono (y - 1950).toNat 1950
  have e2 : (1950 : Int) + ((y - 1950).toNat : Int) = y := by omega
  rw [e2, A1950] at hA2
  have e0 : (0 : Int) = A 1950 - 711857 := by rw [A1950]; rfl
  have hS := Sm_le y J
  have hS2 : Sm y J ≤ 372 := by omega
  rw [e0, ryears M N _ y a b c _ f1 f2 f3 f4 (by omega) M 1950 (by omega) (by omega) (by omega), ← e0]
  have hm := rmonths M N (fun w130 w131 w132 w133 w134 w135 w136 w137 w138 => bindG (ref14_Time_F M N (IntKind.wrap IntKind.i64 (IntKind.wrap IntKind.i64 (IntKind.wrap IntKind.i64 (IntKind.wrap IntKind.i64 (IntKind.wrap IntKind.i64 (w130 + w135) - 1) * 86400) + IntKind.wrap IntKind.i64 (IntKind.wrap IntKind.i64 (IntKind.wrap IntKind.i64 (w136 * 3600) + IntKind.wrap IntKind.i64 (w137 * 60)) + w138)) - 631152000))) (fun r139 => bif !eqI r139.fst w131 then (some (AV.tup [(false, [CV.d (DV.int IntKind.i64 0)]), (false, [CV.d (DV.bool false)])], ([] : List (List CV)))) else (bif leN (List.length r139.snd.fst) 140737488355328 then (bif leN (List.length w132) 140737488355328 then (bif !eqS (bytesOf r139.snd.fst) (bytesOf w132) then (some (AV.tup [(false, [CV.d (DV.int IntKind.i64 0)]), (false, [CV.d (DV.bool false)])], [])) else (some (AV.tup [(false, [CV.d (DV.int IntKind.i64 (IntKind.wrap IntKind.i64 (IntKind.wrap IntKind.i64 (IntKind.wrap IntKind.i64 (IntKind.wrap IntKind.i64 (IntKind.wrap IntKind.i64 (w130 + w135) - 1) * 86400) + IntKind.wrap IntKind.i64 (IntKind.wrap IntKind.i64 (IntKind.wrap IntKind.i64 (w136 * 3600) + IntKind.wrap IntKind.i64 (w137 * 60)) + w138)) - 631152000)))]), (false, [CV.d (DV.bool true)])], []))) else (none)) else (none)))) y (A y - 711857) a b c J f1 f2 f3 f4 (by omega) (by omega) (by omega) M 0 (by omega) (by omega)
  have e3 : A y - 711857 + Sm y 0 = A y - 711857 := by show _ + 0 = _; omega
  have e4 : ((0 + 1 : Nat) : Int) = 1 := rfl
  rw [e3, e4] at hm
  rw [hm]
  rw [wrap64 (x := A y - 711857 + Sm y J + f1) (by omega) (by omega), wrap64 (x := A y - 711857 + Sm y J + f1 - 1) (by omega) (by omega), wrap64 (x := (A y - 711857 + Sm y J + f1 - 1) * 86400) (by omega) (by omega), wrap64 (x := f2 * 3600) (by omega) (by omega), wrap64 (x := f3 * 60) (by omega) (by omega),
    wrap64 (x := f2 * 3600 + f3 * 60) (by omega) (by omega), wrap64 (x := f2 * 3600 + f3 * 60 + f4) (by omega) (by omega), wrap64 (x := (A y - 711857 + Sm y J + f1 - 1) * 86400 + (f2 * 3600 + f3 * 60 + f4)) (by omega) (by omega), wrap64 (x := (A y - 711857 + Sm y J + f1 - 1) * 86400 + (f2 * 3600 + f3 * 60 + f4) - 631152000) (by omega) (by omega)]
  have e5 : (A y - 711857 + Sm y J + f1 - 1) * 86400 + (f2 * 3600 + f3 * 60 + f4) - 631152000 = unixP y ((J + 1 : Nat) : Int) f1 f2 f3 f4 := by
    unfold unixP
    rw [show min ((J + 1 : Nat) : Int).toNat 12 - 1 = J by omega]
    omega
  rw [e5]
  have ht := rTime_X M N hM (unixP y ((J + 1 : Nat) : Int) f1 f2 f3 f4)
  rw [ht, bindG_some, leN_true (by have := time_len (unixP y ((J + 1 : Nat) : Int) f1 f2 f3 f4); omega), leN_true (by omega)]
  unfold chk
  cases eqI (timeX (unixP y ((J + 1 : Nat) : Int) f1 f2 f3 f4)).1 a <;> cases eqS (bytesOf (timeX (unixP y ((J + 1 : Nat) : Int) f1 f2 f3 f4)).2.1) (bytesOf b) <;> rfl
/-- What the reference tells of thirteen bytes, or of fifteen. -/
theorem rGet15 (M N : Nat) (hM : 10001 < M) (x0 x1 x2 x3 x4 x5 x6 x7 x8 x9 x10 x11 x12 x13 x14 : Int) :
    ref14_Get_F M N 24 [x0, x1, x2, x3, x4, x5, x6, x7, x8, x9, x10, x11, x12, x13, x14] [] = (rTail M N (numv [x0, x1, x2, x3] 0) 24 [x0, x1, x2, x3, x4, x5, x6, x7, x8, x9, x10, x11, x12, x13, x14] [] (numv [x4, x5] 0) (numv [x6, x7] 0) (numv [x8, x9] 0) (numv [x10, x11] 0) (numv [x12, x13] 0)).bind ref14_Get_dec := by
  have h4 := number_F M N (by omega) [x0, x1, x2, x3] (by simp)
  have h5 := number_F M N (by omega) [x4, x5] (by simp)
  have h6 := number_F M N (by omega) [x6, x7] (by simp)
  have h7 := number_F M N (by omega) [x8, x9] (by simp)
  have h8 := number_F M N (by omega) [x10, x11] (by simp)
  have h9 := number_F M N (by omega) [x12, x13] (by simp)
  unfold ref14_Get_F ref14_Get_D ref14_Get_B
  show (bindG (ref14_number_F M N [x0, x1, x2, x3]) fun r2 => bindG (ref14_number_F M N [x4, x5]) fun r4 => bindG (ref14_number_F M N [x6, x7]) fun r6 => bindG (ref14_number_F M N [x8, x9]) fun r8 => bindG (ref14_number_F M N [x10, x11]) fun r10 => bindG (ref14_number_F M N [x12, x13]) fun r12 => rTail M N r2 24 [x0, x1, x2, x3, x4, x5, x6, x7, x8, x9, x10, x11, x12, x13, x14] [] r4 r6 r8 r10 r12).bind ref14_Get_dec = _
  rw [h4, h5, h6, h7, h8, h9]
  rfl
theorem rGet13 (M N : Nat) (hM : 10001 < M) (x0 x1 x2 x3 x4 x5 x6 x7 x8 x9 x10 x11 x12 : Int) :
    ref14_Get_F M N 23 [x0, x1, x2, x3, x4, x5, x6, x7, x8, x9, x10, x11, x12] [] = (rTail M N (bif ltI (numv [x0, x1] 0 + 1900) 1950 then numv [x0, x1] 0 + 1900 + 100 else numv [x0, x1] 0 + 1900) 23 [x0, x1, x2, x3, x4, x5, x6, x7, x8, x9, x10, x11, x12] [] (numv [x2, x3] 0) (numv [x4, x5] 0) (numv [x6, x7] 0) (numv [x8, x9] 0) (numv [x10, x11] 0)).bind ref14_Get_dec := by
  have h4 := number_F M N (by omega) [x0, x1] (by simp)
  have h5 := number_F M N (by omega) [x2, x3] (by simp)
  have h6 := number_F M N (by omega) [x4, x5] (by simp)
  have h7 := number_F M N (by omega) [x6, x7] (by simp)
  have h8 := number_F M N (by omega) [x8, x9] (by simp)
  have h9 := number_F M N (by omega) [x10, x11] (by simp)
  have hb := numv2 x0 x1
  unfold ref14_Get_F ref14_Get_D ref14_Get_B
  show (bindG (ref14_number_F M N [x0, x1]) fun r2 => bif ltI (IntKind.wrap IntKind.i64 (r2 + 1900)) 1950 then (bindG (ref14_number_F M N [x2, x3]) fun r4 => bindG (ref14_number_F M N [x4, x5]) fun r6 => bindG (ref14_number_F M N [x6, x7]) fun r8 => bindG (ref14_number_F M N [x8, x9]) fun r10 => bindG (ref14_number_F M N [x10, x11]) fun r12 => rTail M N (IntKind.wrap IntKind.i64 (IntKind.wrap IntKind.i64 (r2 + 1900) + 100)) 23 [x0, x1, x2, x3, x4, x5, x6, x7, x8, x9, x10, x11, x12] [] r4 r6 r8 r10 r12) else
    (bindG (ref14_number_F M N [x2, x3]) fun r4 => bindG (ref14_number_F M N [x4, x5]) fun r6 => bindG (ref14_number_F M N [x6, x7]) fun r8 => bindG (ref14_number_F M N [x8, x9]) fun r10 => bindG (ref14_number_F M N [x10, x11]) fun r12 => rTail M N (IntKind.wrap IntKind.i64 (r2 + 1900)) 23 [x0, x1, x2, x3, x4, x5, x6, x7, x8, x9, x10, x11, x12] [] r4 r6 r8 r10 r12)).bind ref14_Get_dec = _
  rw [h4, h5, h6, h7, h8, h9]
  simp only [bindG_some]
  rw [wrap64 (x := numv [x0, x1] 0 + 1900) (by omega) (by omega), wrap64 (x := numv [x0, x1] 0 + 1900 + 100) (by omega) (by omega)]
  cases ltI (numv [x0, x1] 0 + 1900) 1950 <;> rfl
end Go.Proofs.Ythmdefgepnkgiaa.Eng
