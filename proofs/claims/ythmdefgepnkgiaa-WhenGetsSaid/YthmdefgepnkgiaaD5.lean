/- Functions of the program, told by functions (printed by wip/g/mkdec.py). Conditions: none. -/
import Derived.Test.YthmdefgepnkgiaaGK
import Derived.Test.YthmdefgepnkgiaaD1
import Derived.Test.YthmdefgepnkgiaaD2
import Derived.Test.YthmdefgepnkgiaaD3
import Derived.Test.YthmdefgepnkgiaaN21
namespace Go.Proofs.Ythmdefgepnkgiaa.Eng
open Go
set_option maxRecDepth 100000
set_option linter.unusedVariables false
set_option linter.unusedSimpArgs false
abbrev when_Get_R : Type := Int × Bool
def when_Get_enc (r : when_Get_R) : Res := (.tup [(false, [.d (DV.int IntKind.i64 r.1)]), (false, [.d (DV.bool r.2)])], [])
def when_Get_dec (r : Res) : Option when_Get_R := match r with
  | (.tup [(false, [.d (DV.int IntKind.i64 x0)]), (false, [.d (DV.bool x1)])], []) => some (x0, x1)
  | _ => none
theorem when_Get_dec_inv {r : Res} {x : when_Get_R} (h : when_Get_dec r = some x) : r = when_Get_enc x := by
  unfold when_Get_dec at h
  split at h
  · obtain rfl := Option.some.inj h; rfl
  · cases h
noncomputable def when_Get_ck (D : Int → List Int → List (List DV) → Option when_Get_R) : CK := fun avs bs => match avs, bs with
  | [.one true [.d (DV.int IntKind.u8 a0), .d (DV.ints IntKind.u8 a1), .d (DV.sl 3 a2)]], [] => CallK.via (D (a0) (a1) (a2)) when_Get_enc
  | _, _ => CallK.of none
theorem when_Get_ck_ok {D : Int → List Int → List (List DV) → Option when_Get_R} (h : ∀ (a0 : Int) (a1 : List Int) (a2 : List (List DV)), ∀ r, D (a0) (a1) (a2) = some r → CallOK Go.Proofs.Try.prog 14 [.one true [.d (DV.int IntKind.u8 a0), .d (DV.ints IntKind.u8 a1), .d (DV.sl 3 a2)]] [] (when_Get_enc r)) : CK.OK Go.Proofs.Try.prog 14 (when_Get_ck D) := by
  intro avs bs r hr
  unfold when_Get_ck at hr
  split at hr
  · obtain ⟨x, hx, rfl⟩ := via_some hr
    exact h _ _ _ x hx
  · exact (none_some hr).elim
noncomputable def when_Get_T (G_when_numbers : List Int → Option when_numbers_R) (G_when_of : Int → List Int → Option when_of_R) (G_when_Time : Int → Option when_Time_R) : Tab := tabG Go.Proofs.Try.prog hints [(21, when_numbers_ck G_when_numbers), (22, when_of_ck G_when_of), (8, when_Time_ck G_when_Time)] noIter noMu noPrep
theorem when_Get_T_ok (G_when_numbers : List Int → Option when_numbers_R) (G_when_of : Int → List Int → Option when_of_R) (G_when_Time : Int → Option when_Time_R) (H_when_numbers : CK.OK Go.Proofs.Try.prog 21 (when_numbers_ck G_when_numbers)) (H_when_of : CK.OK Go.Proofs.Try.prog 22 (when_of_ck G_when_of)) (H_when_Time : CK.OK Go.Proofs.Try.prog 8 (when_Time_ck G_when_Time)) : TabOK Go.Proofs.Try.prog (when_Get_T G_when_numbers G_when_of G_when_Time) := by
  have hl : ∀ p ∈ ([(21, when_numbers_ck G_when_numbers), (22, when_of_ck G_when_of), (8, when_Time_ck G_when_Time)] : Cks), p.2.OK Go.Proofs.Try.prog p.1 := fun p hp => by
    simp only [List.mem_cons, List.not_mem_nil, or_false] at hp
    rcases hp with rfl | rfl | rfl <;> assumption
  exact tabG_ok mixed named hl noIter_ok
theorem when_Get_nodup (G_when_numbers : List Int → Option when_numbers_R) (G_when_of : Int → List Int → Option when_of_R) (G_when_Time : Int → Option when_Time_R) : nodupB ((blocksOf (bodyOf (when_Get_T G_when_numbers G_when_of G_when_Time) 14)).map (·.1)) = true := by kernel_rfl
def when_Get_hk0 (M : Nat) (G_when_numbers : List Int → Option when_numbers_R) (G_when_of : Int → List Int → Option when_of_R) (G_when_Time : Int → Option when_Time_R) : Hks := []
theorem when_Get_hk0_ok (M : Nat) (G_when_numbers : List Int → Option when_numbers_R) (G_when_of : Int → List Int → Option when_of_R) (G_when_Time : Int → Option when_Time_R) (_ : TabOK Go.Proofs.Try.prog (when_Get_T G_when_numbers G_when_of G_when_Time)) : HksOK Go.Proofs.Try.prog (ctxOf (when_Get_T G_when_numbers G_when_of G_when_Time) (evalK (when_Get_T G_when_numbers G_when_of G_when_Time) 20) 14) (bodyOf (when_Get_T G_when_numbers G_when_of G_when_Time) 14) (when_Get_hk0 M G_when_numbers G_when_of G_when_Time) := .nil
noncomputable def when_Get_B (M : Nat) (G_when_numbers : List Int → Option when_numbers_R) (G_when_of : Int → List Int → Option when_of_R) (G_when_Time : Int → Option when_Time_R) (a0 : Int) (a1 : List Int) (a2 : List (List DV)) : Option Res :=
  bif ltI 0 ↑(List.length a2) then (some (AV.tup [(false, [CV.d (DV.int IntKind.i64 0)]), (false, [CV.d (DV.bool false)])], [])) else (bif eqI (↑(List.length a1)) 0 then (some (AV.tup [(false, [CV.d (DV.int IntKind.i64 0)]), (false, [CV.d (DV.bool false)])], [])) else (cutI (a1) (none) (some (IntKind.wrap IntKind.i64 (↑(List.length a1) - 1))) (fun y1 => bindG (G_when_numbers (y1)) (fun r2 => bif !r2.snd then (some (AV.tup [(false, [CV.d (DV.int IntKind.i64 0)]), (false, [CV.d (DV.bool false)])], [])) else (bif ltI (↑(List.length r2.fst)) 6 then (some (AV.tup [(false, [CV.d (DV.int IntKind.i64 0)]), (false, [CV.d (DV.bool false)])], [])) else (nth (r2.fst) (0) (fun x3 => bif eqI a0 24 then (nth (r2.fst) (0) (fun x4 => nth (r2.fst) (1) (fun x5 => cutI (r2.fst) (some 1) (none) (fun y6 => bif !eqI (↑(List.length y6)) 6 then (some (AV.tup [(false, [CV.d (DV.int IntKind.i64 0)]), (false, [CV.d (DV.bool false)])], [])) else (bif ltI (IntKind.wrap IntKind.i64 (IntKind.wrap IntKind.i64 (x4 * 100) + x5)) 1 then (some (AV.tup [(false, [CV.d (DV.int IntKind.i64 0)]), (false, [CV.d (DV.bool false)])], [])) else (cutI (y6) (some 1) (none) (fun y7 => bindG (G_when_of (IntKind.wrap IntKind.i64 (IntKind.wrap IntKind.i64 (x4 * 100) + x5)) (y7)) (fun r8 => bindG (G_when_Time (r8)) (fun r9 => bif !eqI r9.fst a0 then (some (AV.tup [(false, [CV.d (DV.int IntKind.i64 0)]), (false, [CV.d (DV.bool false)])], [])) else (bif leN (List.length r9.snd.fst) 140737488355328 then (bif leN (List.length a1) 140737488355328 then (bif !eqS (bytesOf r9.snd.fst) (bytesOf a1) then (some (AV.tup [(false, [CV.d (DV.int IntKind.i64 0)]), (false, [CV.d (DV.bool false)])], [])) else (some (AV.tup [(false, [CV.d (DV.int IntKind.i64 r8)]), (false, [CV.d (DV.bool true)])], []))) else (none)) else (none))))))))))) else (bif ltI x3 50 then (bif !eqI (↑(List.length r2.fst)) 6 then (some (AV.tup [(false, [CV.d (DV.int IntKind.i64 0)]), (false, [CV.d (DV.bool false)])], [])) else (bif ltI (IntKind.wrap IntKind.i64 (x3 + 2000)) 1 then (some (AV.tup [(false, [CV.d (DV.int IntKind.i64 0)]), (false, [CV.d (DV.bool false)])], [])) else (cutI (r2.fst) (some 1) (none) (fun y10 => bindG (G_when_of (IntKind.wrap IntKind.i64 (x3 + 2000)) (y10)) (fun r11 => bindG (G_when_Time (r11)) (fun r12 => bif !eqI r12.fst a0 then (some (AV.tup [(false, [CV.d (DV.int IntKind.i64 0)]), (false, [CV.d (DV.bool false)])], [])) else (bif leN (List.length r12.snd.fst) 140737488355328 then (bif leN (List.length a1) 140737488355328 then (bif !eqS (bytesOf r12.snd.fst) (bytesOf a1) then (some (AV.tup [(false, [CV.d (DV.int IntKind.i64 0)]), (false, [CV.d (DV.bool false)])], [])) else (some (AV.tup [(false, [CV.d (DV.int IntKind.i64 r11)]), (false, [CV.d (DV.bool true)])], []))) else (none)) else (none)))))))) else (bif !eqI (↑(List.length r2.fst)) 6 then (some (AV.tup [(false, [CV.d (DV.int IntKind.i64 0)]), (false, [CV.d (DV.bool false)])], [])) else (bif ltI (IntKind.wrap IntKind.i64 (x3 + 1900)) 1 then (some (AV.tup [(false, [CV.d (DV.int IntKind.i64 0)]), (false, [CV.d (DV.bool false)])], [])) else (cutI (r2.fst) (some 1) (none) (fun y13 => bindG (G_when_of (IntKind.wrap IntKind.i64 (x3 + 1900)) (y13)) (fun r14 => bindG (G_when_Time (r14)) (fun r15 => bif !eqI r15.fst a0 then (some (AV.tup [(false, [CV.d (DV.int IntKind.i64 0)]), (false, [CV.d (DV.bool false)])], [])) else (bif leN (List.length r15.snd.fst) 140737488355328 then (bif leN (List.length a1) 140737488355328 then (bif !eqS (bytesOf r15.snd.fst) (bytesOf a1) then (some (AV.tup [(false, [CV.d (DV.int IntKind.i64 0)]), (false, [CV.d (DV.bool false)])], [])) else (some (AV.tup [(false, [CV.d (DV.int IntKind.i64 r14)]), (false, [CV.d (DV.bool true)])], []))) else (none)) else (none))))))))))))))))
theorem when_Get_B_eq (M : Nat) (G_when_numbers : List Int → Option when_numbers_R) (G_when_of : Int → List Int → Option when_of_R) (G_when_Time : Int → Option when_Time_R) (a0 : Int) (a1 : List Int) (a2 : List (List DV)) : evalBH (when_Get_T G_when_numbers G_when_of G_when_Time) (findHk (when_Get_hk0 M G_when_numbers G_when_of G_when_Time)) (evalK (when_Get_T G_when_numbers G_when_of G_when_Time) 20) 14 [.one true [.d (DV.int IntKind.u8 a0), .d (DV.ints IntKind.u8 a1), .d (DV.sl 3 a2)]] [] = when_Get_B M G_when_numbers G_when_of G_when_Time a0 a1 a2 := by kernel_rfl
noncomputable def when_Get_D (M : Nat) (G_when_numbers : List Int → Option when_numbers_R) (G_when_of : Int → List Int → Option when_of_R) (G_when_Time : Int → Option when_Time_R) (a0 : Int) (a1 : List Int) (a2 : List (List DV)) : Option when_Get_R := (when_Get_B M G_when_numbers G_when_of G_when_Time a0 a1 a2).bind when_Get_dec
theorem when_Get_D_ok (M : Nat) (G_when_numbers : List Int → Option when_numbers_R) (G_when_of : Int → List Int → Option when_of_R) (G_when_Time : Int → Option when_Time_R) (H_when_numbers : CK.OK Go.Proofs.Try.prog 21 (when_numbers_ck G_when_numbers)) (H_when_of : CK.OK Go.Proofs.Try.prog 22 (when_of_ck G_when_of)) (H_when_Time : CK.OK Go.Proofs.Try.prog 8 (when_Time_ck G_when_Time)) (a0 : Int) (a1 : List Int) (a2 : List (List DV)) (r : when_Get_R) (h : when_Get_D M G_when_numbers G_when_of G_when_Time a0 a1 a2 = some r) : CallOK Go.Proofs.Try.prog 14 [.one true [.d (DV.int IntKind.u8 a0), .d (DV.ints IntKind.u8 a1), .d (DV.sl 3 a2)]] [] (when_Get_enc r) := by
  obtain ⟨res, h1, h2⟩ := Option.bind_eq_some_iff.1 h
  have hT := when_Get_T_ok G_when_numbers G_when_of G_when_Time H_when_numbers H_when_of H_when_Time
  have this := evalG_ok hT (when_Get_hk0_ok M G_when_numbers G_when_of G_when_Time hT) (when_Get_nodup G_when_numbers G_when_of G_when_Time) (fun _ _ _ => rfl) ((when_Get_B_eq M G_when_numbers G_when_of G_when_Time a0 a1 a2).trans h1)
  rwa [when_Get_dec_inv h2] at this
noncomputable def when_Get_F (M N : Nat) (a0 : Int) (a1 : List Int) (a2 : List (List DV)) : Option when_Get_R := when_Get_D M (when_numbers_F M N) (when_of_F M N) (when_Time_F M N) a0 a1 a2
theorem when_Get_F_ok (M N : Nat) : CK.OK Go.Proofs.Try.prog 14 (when_Get_ck (when_Get_F M N)) := when_Get_ck_ok fun a0 a1 a2 r h => when_Get_D_ok M _ _ _ (when_numbers_F_ok M N) (when_of_F_ok M N) (when_Time_F_ok M N) a0 a1 a2 r h
abbrev ref12_Same_R : Type := Bool
def ref12_Same_enc (r : ref12_Same_R) : Res := (.one false [.d (DV.bool r)], [])
def ref12_Same_dec (r : Res) : Option ref12_Same_R := match r with
  | (.one false [.d (DV.bool x0)], []) => some x0
  | _ => none
theorem ref12_Same_dec_inv {r : Res} {x : ref12_Same_R} (h : ref12_Same_dec r = some x) : r = ref12_Same_enc x := by
  unfold ref12_Same_dec at h
  split at h
  · obtain rfl := Option.some.inj h; rfl
  · cases h
noncomputable def ref12_Same_ck (D : Int → List Int → List (List DV) → Int → List Int → List (List DV) → Option ref12_Same_R) : CK := fun avs bs => match avs, bs with
  | [.one true [.d (DV.int IntKind.u8 a0), .d (DV.ints IntKind.u8 a1), .d (DV.sl 3 a2)], .one true [.d (DV.int IntKind.u8 a3), .d (DV.ints IntKind.u8 a4), .d (DV.sl 3 a5)]], [] => CallK.via (D (a0) (a1) (a2) (a3) (a4) (a5)) ref12_Same_enc
  | _, _ => CallK.of none
theorem ref12_Same_ck_ok {D : Int → List Int → List (List DV) → Int → List Int → List (List DV) → Option ref12_Same_R} (h : ∀ (a0 : Int) (a1 : List Int) (a2 : List (List DV)) (a3 : Int) (a4 : List Int) (a5 : List (List DV)), ∀ r, D (a0) (a1) (a2) (a3) (a4) (a5) = some r → CallOK Go.Proofs.Try.prog 11 [.one true [.d (DV.int IntKind.u8 a0), .d (DV.ints IntKind.u8 a1), .d (DV.sl 3 a2)], .one true [.d (DV.int IntKind.u8 a3), .d (DV.ints IntKind.u8 a4), .d (DV.sl 3 a5)]] [] (ref12_Same_enc r)) : CK.OK Go.Proofs.Try.prog 11 (ref12_Same_ck D) := by
  intro avs bs r hr
  unfold ref12_Same_ck at hr
  split at hr
  · obtain ⟨x, hx, rfl⟩ := via_some hr
    exact h _ _ _ _ _ _ x hx
  · exact (none_some hr).elim
noncomputable def ref12_Same_T (G_ref12_Same : Int → List Int → List (List DV) → Int → List Int → List (List DV) → Option ref12_Same_R) : Tab := tabG Go.Proofs.Try.prog hints [(11, ref12_Same_ck G_ref12_Same)] noIter noMu noPrep
theorem ref12_Same_T_ok (G_ref12_Same : Int → List Int → List (List DV) → Int → List Int → List (List DV) → Option ref12_Same_R) (H_ref12_Same : CK.OK Go.Proofs.Try.prog 11 (ref12_Same_ck G_ref12_Same)) : TabOK Go.Proofs.Try.prog (ref12_Same_T G_ref12_Same) := by
  have hl : ∀ p ∈ ([(11, ref12_Same_ck G_ref12_Same)] : Cks), p.2.OK Go.Proofs.Try.prog p.1 := fun p hp => by
    simp only [List.mem_cons, List.not_mem_nil, or_false] at hp
    rcases hp with rfl <;> assumption
  exact tabG_ok mixed named hl noIter_ok
theorem ref12_Same_nodup (G_ref12_Same : Int → List Int → List (List DV) → Int → List Int → List (List DV) → Option ref12_Same_R) : nodupB ((blocksOf (bodyOf (ref12_Same_T G_ref12_Same) 11)).map (·.1)) = true := by kernel_rfl
def ref12_Same_hk0 (M : Nat) (G_ref12_Same : Int → List Int → List (List DV) → Int → List Int → List (List DV) → Option ref12_Same_R) : Hks := []
theorem ref12_Same_hk0_ok (M : Nat) (G_ref12_Same : Int → List Int → List (List DV) → Int → List Int → List (List DV) → Option ref12_Same_R) (_ : TabOK Go.Proofs.Try.prog (ref12_Same_T G_ref12_Same)) : HksOK Go.Proofs.Try.prog (ctxOf (ref12_Same_T G_ref12_Same) (evalK (ref12_Same_T G_ref12_Same) 20) 11) (bodyOf (ref12_Same_T G_ref12_Same) 11) (ref12_Same_hk0 M G_ref12_Same) := .nil
noncomputable def ref12_Same_s0 {R : Type} (M : Nat) (G_ref12_Same : Int → List Int → List (List DV) → Int → List Int → List (List DV) → Option ref12_Same_R) (k0 : Option R) (k1 : Int → List Int → List (List DV) → Int → List Int → List (List DV) → Option R) (rc : Int → Int → List Int → List (List DV) → Int → List Int → List (List DV) → Option R) (v1 : Int) (v2 : Int) (v3 : List Int) (v4 : List (List DV)) (v5 : Int) (v6 : List Int) (v7 : List (List DV)) : Option R :=
  bif ltI v1 ↑(List.length v4) then (nth (v4) (v1) (fun x8 => unconsF (x8) (fun d9 r10 => asI (IntKind.u8) (d9) (fun y11 => unconsF (r10) (fun d12 r13 => asR (IntKind.u8) (d12) (fun y14 => unconsF (r13) (fun d15 r16 => asL (3) (d15) (fun y17 => nth (v7) (v1) (fun x18 => unconsF (x18) (fun d19 r20 => asI (IntKind.u8) (d19) (fun y21 => unconsF (r20) (fun d22 r23 => asR (IntKind.u8) (d22) (fun y24 => unconsF (r23) (fun d25 r26 => asL (3) (d25) (fun y27 => bindG (G_ref12_Same (y11) (y14) (y17) (y21) (y24) (y27)) (fun r28 => bif !r28 then (k0) else (rc (IntKind.wrap IntKind.i64 (v1 + 1)) (v2) (v3) (v4) (v5) (v6) (v7)))))))))))))))))) else (k1 (v2) (v3) (v4) (v5) (v6) (v7))
noncomputable def ref12_Same_l0 {R : Type} (M : Nat) (G_ref12_Same : Int → List Int → List (List DV) → Int → List Int → List (List DV) → Option ref12_Same_R) (k0 : Option R) (k1 : Int → List Int → List (List DV) → Int → List Int → List (List DV) → Option R) : Nat → Int → Int → List Int → List (List DV) → Int → List Int → List (List DV) → Option R
  | 0, _, _, _, _, _, _, _ => none
  | n + 1, v1, v2, v3, v4, v5, v6, v7 => ref12_Same_s0 M G_ref12_Same k0 k1 (ref12_Same_l0 M G_ref12_Same k0 k1 n) v1 v2 v3 v4 v5 v6 v7
theorem ref12_Same_s0_eq {R : Type} (M : Nat) (G_ref12_Same : Int → List Int → List (List DV) → Int → List Int → List (List DV) → Option ref12_Same_R) (n : Nat) (v1 : Int) (v2 : Int) (v3 : List Int) (v4 : List (List DV)) (v5 : Int) (v6 : List Int) (v7 : List (List DV)) (K : AX → St → Option R) :
  rG (ref12_Same_T (G_ref12_Same)) 11 (ref12_Same_hk0 M G_ref12_Same) 0 ([2, 3, 5], [2, 3, 50000, 1000000, 1000001, 1000002]) (houtOf ([], [2, 3, 50000, 1000000, 1000001, 1000002]) [] ([4], [2, 3, 50000, 1000000, 1000001, 1000002])) (n + 1) (mkS [(2, AV.one false [CV.ptr 2 0 none]), (3, AV.one false [CV.ptr 3 0 none]), (5, AV.one false [CV.d (DV.int IntKind.i64 v1)])] [(2, [CV.d (DV.int IntKind.u8 v2), CV.d (DV.ints IntKind.u8 v3), CV.d (DV.sl 3 v4)]), (3, [CV.d (DV.int IntKind.u8 v5), CV.d (DV.ints IntKind.u8 v6), CV.d (DV.sl 3 v7)])]) K =
  ref12_Same_s0 M G_ref12_Same (K .ret (mkS [(4, AV.one false [CV.d (DV.bool false)])] [])) ((fun w29 w30 w31 w32 w33 w34 => K .norm (mkS [] [(2, [CV.d (DV.int IntKind.u8 w29), CV.d (DV.ints IntKind.u8 w30), CV.d (DV.sl 3 w31)]), (3, [CV.d (DV.int IntKind.u8 w32), CV.d (DV.ints IntKind.u8 w33), CV.d (DV.sl 3 w34)])]))) (fun v1 v2 v3 v4 v5 v6 v7 => rG (ref12_Same_T (G_ref12_Same)) 11 (ref12_Same_hk0 M G_ref12_Same) 0 ([2, 3, 5], [2, 3, 50000, 1000000, 1000001, 1000002]) (houtOf ([], [2, 3, 50000, 1000000, 1000001, 1000002]) [] ([4], [2, 3, 50000, 1000000, 1000001, 1000002])) n (mkS [(2, AV.one false [CV.ptr 2 0 none]), (3, AV.one false [CV.ptr 3 0 none]), (5, AV.one false [CV.d (DV.int IntKind.i64 v1)])] [(2, [CV.d (DV.int IntKind.u8 v2), CV.d (DV.ints IntKind.u8 v3), CV.d (DV.sl 3 v4)]), (3, [CV.d (DV.int IntKind.u8 v5), CV.d (DV.ints IntKind.u8 v6), CV.d (DV.sl 3 v7)])]) K) v1 v2 v3 v4 v5 v6 v7 := by kernel_rfl
theorem ref12_Same_l0_eq {R : Type} (M : Nat) (G_ref12_Same : Int → List Int → List (List DV) → Int → List Int → List (List DV) → Option ref12_Same_R) (K : AX → St → Option R) : ∀ (n : Nat) (v1 : Int) (v2 : Int) (v3 : List Int) (v4 : List (List DV)) (v5 : Int) (v6 : List Int) (v7 : List (List DV)),
  rG (ref12_Same_T (G_ref12_Same)) 11 (ref12_Same_hk0 M G_ref12_Same) 0 ([2, 3, 5], [2, 3, 50000, 1000000, 1000001, 1000002]) (houtOf ([], [2, 3, 50000, 1000000, 1000001, 1000002]) [] ([4], [2, 3, 50000, 1000000, 1000001, 1000002])) n (mkS [(2, AV.one false [CV.ptr 2 0 none]), (3, AV.one false [CV.ptr 3 0 none]), (5, AV.one false [CV.d (DV.int IntKind.i64 v1)])] [(2, [CV.d (DV.int IntKind.u8 v2), CV.d (DV.ints IntKind.u8 v3), CV.d (DV.sl 3 v4)]), (3, [CV.d (DV.int IntKind.u8 v5), CV.d (DV.ints IntKind.u8 v6), CV.d (DV.sl 3 v7)])]) K = ref12_Same_l0 M G_ref12_Same (K .ret (mkS [(4, AV.one false [CV.d (DV.bool false)])] [])) ((fun w29 w30 w31 w32 w33 w34 => K .norm (mkS [] [(2, [CV.d (DV.int IntKind.u8 w29), CV.d (DV.ints IntKind.u8 w30), CV.d (DV.sl 3 w31)]), (3, [CV.d (DV.int IntKind.u8 w32), CV.d (DV.ints IntKind.u8 w33), CV.d (DV.sl 3 w34)])]))) n v1 v2 v3 v4 v5 v6 v7
  | 0, _, _, _, _, _, _, _ => rfl
  | n + 1, v1, v2, v3, v4, v5, v6, v7 => by
    have h : (fun v1 v2 v3 v4 v5 v6 v7 => rG (ref12_Same_T (G_ref12_Same)) 11 (ref12_Same_hk0 M G_ref12_Same) 0 ([2, 3, 5], [2, 3, 50000, 1000000, 1000001, 1000002]) (houtOf ([], [2, 3, 50000, 1000000, 1000001, 1000002]) [] ([4], [2, 3, 50000, 1000000, 1000001, 1000002])) n (mkS [(2, AV.one false [CV.ptr 2 0 none]), (3, AV.one false [CV.ptr 3 0 none]), (5, AV.one false [CV.d (DV.int IntKind.i64 v1)])] [(2, [CV.d (DV.int IntKind.u8 v2), CV.d (DV.ints IntKind.u8 v3), CV.d (DV.sl 3 v4)]), (3, [CV.d (DV.int IntKind.u8 v5), CV.d (DV.ints IntKind.u8 v6), CV.d (DV.sl 3 v7)])]) K) = ref12_Same_l0 M G_ref12_Same (K .ret (mkS [(4, AV.one false [CV.d (DV.bool false)])] [])) ((fun w29 w30 w31 w32 w33 w34 => K .norm (mkS [] [(2, [CV.d (DV.int IntKind.u8 w29), CV.d (DV.ints IntKind.u8 w30), CV.d (DV.sl 3 w31)]), (3, [CV.d (DV.int IntKind.u8 w32), CV.d (DV.ints IntKind.u8 w33), CV.d (DV.sl 3 w34)])]))) n := by funext v1 v2 v3 v4 v5 v6 v7; exact ref12_Same_l0_eq M G_ref12_Same K n v1 v2 v3 v4 v5 v6 v7
    rw [ref12_Same_s0_eq, h]; rfl
noncomputable def ref12_Same_l0_hook (M : Nat) (G_ref12_Same : Int → List Int → List (List DV) → Int → List Int → List (List DV) → Option ref12_Same_R) : HookS := ⟨fun s K => g1 (s.tm 2) fun c1 => gP 2 0 c1 <| g1 (s.tm 3) fun c2 => gP 3 0 c2 <| g1 (s.tm 5) fun c3 => gD c3 fun c4 => asI IntKind.i64 c4 fun v1 => gX (s.bx 2) fun c5 => gC c5 fun c6 c7 => gD c6 fun c8 => asI IntKind.u8 c8 fun v2 => gC c7 fun c9 c10 => gD c9 fun c11 => asR IntKind.u8 c11 fun v3 => gC c10 fun c12 c13 => gD c12 fun c14 => asL 3 c14 fun v4 => gN c13 <| gX (s.bx 3) fun c15 => gC c15 fun c16 c17 => gD c16 fun c18 => asI IntKind.u8 c18 fun v5 => gC c17 fun c19 c20 => gD c19 fun c21 => asR IntKind.u8 c21 fun v6 => gC c20 fun c22 c23 => gD c22 fun c24 => asL 3 c24 fun v7 => gN c23 <|  ref12_Same_l0 M G_ref12_Same (K .ret (mkS [(4, AV.one false [CV.d (DV.bool false)])] [])) ((fun w29 w30 w31 w32 w33 w34 => K .norm (mkS [] [(2, [CV.d (DV.int IntKind.u8 w29), CV.d (DV.ints IntKind.u8 w30), CV.d (DV.sl 3 w31)]), (3, [CV.d (DV.int IntKind.u8 w32), CV.d (DV.ints IntKind.u8 w33), CV.d (DV.sl 3 w34)])]))) M v1 v2 v3 v4 v5 v6 v7⟩
noncomputable def ref12_Same_hk1 (M : Nat) (G_ref12_Same : Int → List Int → List (List DV) → Int → List Int → List (List DV) → Option ref12_Same_R) : Hks := (0, ref12_Same_l0_hook M G_ref12_Same) :: ref12_Same_hk0 M G_ref12_Same
theorem ref12_Same_hk1_ok (M : Nat) (G_ref12_Same : Int → List Int → List (List DV) → Int → List Int → List (List DV) → Option ref12_Same_R) (hT : TabOK Go.Proofs.Try.prog (ref12_Same_T (G_ref12_Same))) : HksOK Go.Proofs.Try.prog (ctxOf (ref12_Same_T (G_ref12_Same)) (evalK (ref12_Same_T (G_ref12_Same)) 20) 11) (bodyOf (ref12_Same_T (G_ref12_Same)) 11) (ref12_Same_hk1 M G_ref12_Same) := by
  refine .cons (loop_hook (ctx_ok hT 11).1 (ctx_ok hT 11).2 mixed (l := ref12_Same_hk0 M G_ref12_Same) (ref12_Same_hk0_ok M G_ref12_Same hT) (ref12_Same_nodup G_ref12_Same) (i := 0) (hin := ([2, 3, 5], [2, 3, 50000, 1000000, 1000001, 1000002])) (hout := (houtOf ([], [2, 3, 50000, 1000000, 1000001, 1000002]) [] ([4], [2, 3, 50000, 1000000, 1000001, 1000002]))) (fuel := (ref12_Same_T (G_ref12_Same)).fuel) (hint := (ref12_Same_T (G_ref12_Same)).hint 11) (by kernel_rfl) fun s K r q0 => ?_) (ref12_Same_hk0_ok M G_ref12_Same hT)
  obtain ⟨c1, h2, q1⟩ := g1_some q0
  obtain ⟨rfl, q2⟩ := gP_some q1
  obtain ⟨c2, h3, q3⟩ := g1_some q2
  obtain ⟨rfl, q4⟩ := gP_some q3
  obtain ⟨c3, h5, q5⟩ := g1_some q4
  obtain ⟨c4, rfl, q6⟩ := gD_some q5
  obtain ⟨v1, rfl, q7⟩ := asI_some q6
  obtain ⟨c5, b2, q8⟩ := gX_some q7
  obtain ⟨c6, c7, rfl, q9⟩ := gC_some q8
  obtain ⟨c8, rfl, q10⟩ := gD_some q9
  obtain ⟨v2, rfl, q11⟩ := asI_some q10
  obtain ⟨c9, c10, rfl, q12⟩ := gC_some q11
  obtain ⟨c11, rfl, q13⟩ := gD_some q12
  obtain ⟨v3, rfl, q14⟩ := asR_some q13
  obtain ⟨c12, c13, rfl, q15⟩ := gC_some q14
  obtain ⟨c14, rfl, q16⟩ := gD_some q15
  obtain ⟨v4, rfl, q17⟩ := asL_some q16
  obtain ⟨rfl, q18⟩ := gN_some q17
  obtain ⟨c15, b3, q19⟩ := gX_some q18
  obtain ⟨c16, c17, rfl, q20⟩ := gC_some q19
  obtain ⟨c18, rfl, q21⟩ := gD_some q20
  obtain ⟨v5, rfl, q22⟩ := asI_some q21
  obtain ⟨c19, c20, rfl, q23⟩ := gC_some q22
  obtain ⟨c21, rfl, q24⟩ := gD_some q23
  obtain ⟨v6, rfl, q25⟩ := asR_some q24
  obtain ⟨c22, c23, rfl, q26⟩ := gC_some q25
  obtain ⟨c24, rfl, q27⟩ := gD_some q26
  obtain ⟨v7, rfl, q28⟩ := asL_some q27
  obtain ⟨rfl, q29⟩ := gN_some q28
  have hs := q29
  exact ⟨M, mkS [(2, AV.one false [CV.ptr 2 0 none]), (3, AV.one false [CV.ptr 3 0 none]), (5, AV.one false [CV.d (DV.int IntKind.i64 v1)])] [(2, [CV.d (DV.int IntKind.u8 v2), CV.d (DV.ints IntKind.u8 v3), CV.d (DV.sl 3 v4)]), (3, [CV.d (DV.int IntKind.u8 v5), CV.d (DV.ints IntKind.u8 v6), CV.d (DV.sl 3 v7)])], mkS_weak _ _ (by simp [*]) (by simp [*]), (ref12_Same_l0_eq M G_ref12_Same K M v1 v2 v3 v4 v5 v6 v7).trans hs⟩
noncomputable def ref12_Same_B (M : Nat) (G_ref12_Same : Int → List Int → List (List DV) → Int → List Int → List (List DV) → Option ref12_Same_R) (a0 : Int) (a1 : List Int) (a2 : List (List DV)) (a3 : Int) (a4 : List Int) (a5 : List (List DV)) : Option Res :=
  bif !eqI a0 a3 then (some (AV.one false [CV.d (DV.bool false)], [])) else (bif leN (List.length a1) 140737488355328 then (bif leN (List.length a4) 140737488355328 then (bif !eqS (bytesOf a1) (bytesOf a4) then (some (AV.one false [CV.d (DV.bool false)], [])) else (bif !eqI ↑(List.length a2) ↑(List.length a5) then (some (AV.one false [CV.d (DV.bool false)], [])) else (ref12_Same_l0 (M) (G_ref12_Same) (some (AV.one false [CV.d (DV.bool false)], [])) ((fun w35 w36 w37 w38 w39 w40 => some (AV.one false [CV.d (DV.bool true)], []))) (M) (0) (a0) (a1) (a2) (a3) (a4) (a5)))) else (none)) else (none))
theorem ref12_Same_B_eq (M : Nat) (G_ref12_Same : Int → List Int → List (List DV) → Int → List Int → List (List DV) → Option ref12_Same_R) (a0 : Int) (a1 : List Int) (a2 : List (List DV)) (a3 : Int) (a4 : List Int) (a5 : List (List DV)) : evalBH (ref12_Same_T G_ref12_Same) (findHk (ref12_Same_hk1 M G_ref12_Same)) (evalK (ref12_Same_T G_ref12_Same) 20) 11 [.one true [.d (DV.int IntKind.u8 a0), .d (DV.ints IntKind.u8 a1), .d (DV.sl 3 a2)], .one true [.d (DV.int IntKind.u8 a3), .d (DV.ints IntKind.u8 a4), .d (DV.sl 3 a5)]] [] = ref12_Same_B M G_ref12_Same a0 a1 a2 a3 a4 a5 := by kernel_rfl
noncomputable def ref12_Same_D (M : Nat) (G_ref12_Same : Int → List Int → List (List DV) → Int → List Int → List (List DV) → Option ref12_Same_R) (a0 : Int) (a1 : List Int) (a2 : List (List DV)) (a3 : Int) (a4 : List Int) (a5 : List (List DV)) : Option ref12_Same_R := (ref12_Same_B M G_ref12_Same a0 a1 a2 a3 a4 a5).bind ref12_Same_dec
theorem ref12_Same_D_ok (M : Nat) (G_ref12_Same : Int → List Int → List (List DV) → Int → List Int → List (List DV) → Option ref12_Same_R) (H_ref12_Same : CK.OK Go.Proofs.Try.prog 11 (ref12_Same_ck G_ref12_Same)) (a0 : Int) (a1 : List Int) (a2 : List (List DV)) (a3 : Int) (a4 : List Int) (a5 : List (List DV)) (r : ref12_Same_R) (h : ref12_Same_D M G_ref12_Same a0 a1 a2 a3 a4 a5 = some r) : CallOK Go.Proofs.Try.prog 11 [.one true [.d (DV.int IntKind.u8 a0), .d (DV.ints IntKind.u8 a1), .d (DV.sl 3 a2)], .one true [.d (DV.int IntKind.u8 a3), .d (DV.ints IntKind.u8 a4), .d (DV.sl 3 a5)]] [] (ref12_Same_enc r) := by
  obtain ⟨res, h1, h2⟩ := Option.bind_eq_some_iff.1 h
  have hT := ref12_Same_T_ok G_ref12_Same H_ref12_Same
  have this := evalG_ok hT (ref12_Same_hk1_ok M G_ref12_Same hT) (ref12_Same_nodup G_ref12_Same) (fun _ _ _ => rfl) ((ref12_Same_B_eq M G_ref12_Same a0 a1 a2 a3 a4 a5).trans h1)
  rwa [ref12_Same_dec_inv h2] at this
noncomputable def ref12_Same_F (M : Nat) : Nat → Int → List Int → List (List DV) → Int → List Int → List (List DV) → Option ref12_Same_R
  | 0, _, _, _, _, _, _ => none
  | N + 1, a0, a1, a2, a3, a4, a5 => ref12_Same_D M (ref12_Same_F M N) a0 a1 a2 a3 a4 a5
theorem ref12_Same_F_ok (M : Nat) : ∀ N : Nat, CK.OK Go.Proofs.Try.prog 11 (ref12_Same_ck (ref12_Same_F M N))
  | 0 => ref12_Same_ck_ok fun _ _ _ _ _ _ r h => by cases h
  | N + 1 => ref12_Same_ck_ok fun a0 a1 a2 a3 a4 a5 r h => ref12_Same_D_ok M _ (ref12_Same_F_ok M N) a0 a1 a2 a3 a4 a5 r h
end Go.Proofs.Ythmdefgepnkgiaa.Eng
