/- Functions of the program, told by functions (printed by wip/g/mkdec.py). Conditions: none. -/
import Derived.Test.YthmdefgepnkgiaaGK
import Derived.Test.YthmdefgepnkgiaaD1
namespace Go.Proofs.Ythmdefgepnkgiaa.Eng
open Go
set_option maxRecDepth 100000
set_option linter.unusedVariables false
set_option linter.unusedSimpArgs false
abbrev when_Time_R : Type := Int × (List Int) × (List (List DV))
def when_Time_enc (r : when_Time_R) : Res := (.one true [.d (DV.int IntKind.u8 r.1), .own 0 (DV.ints IntKind.u8 r.2.1), .own 1 (DV.sl 3 r.2.2)], [])
def when_Time_dec (r : Res) : Option when_Time_R := match r with
  | (.one true [.d (DV.int IntKind.u8 x0), .own 0 (DV.ints IntKind.u8 x1), .own 1 (DV.sl 3 x2)], []) => some (x0, x1, x2)
  | _ => none
theorem when_Time_dec_inv {r : Res} {x : when_Time_R} (h : when_Time_dec r = some x) : r = when_Time_enc x := by
  unfold when_Time_dec at h
  split at h
  · obtain rfl := Option.some.inj h; rfl
  · cases h
noncomputable def when_Time_ck (D : Int → Option when_Time_R) : CK := fun avs bs => match avs, bs with
  | [.one false [.d (DV.int IntKind.i64 a0)]], [] => CallK.via (D (a0)) when_Time_enc
  | _, _ => CallK.of none
theorem when_Time_ck_ok {D : Int → Option when_Time_R} (h : ∀ (a0 : Int), ∀ r, D (a0) = some r → CallOK Go.Proofs.Try.prog 8 [.one false [.d (DV.int IntKind.i64 a0)]] [] (when_Time_enc r)) : CK.OK Go.Proofs.Try.prog 8 (when_Time_ck D) := by
  intro avs bs r hr
  unfold when_Time_ck at hr
  split at hr
  · obtain ⟨x, hx, rfl⟩ := via_some hr
    exact h _ x hx
  · exact (none_some hr).elim
noncomputable def when_Time_T (G_when_Is : Int → Option when_Is_R) (G_when_Date : Int → Option when_Date_R) (G_when_two : Int → Option when_two_R) : Tab := tabG Go.Proofs.Try.prog hints [(10, when_Is_ck G_when_Is), (18, when_Date_ck G_when_Date), (19, when_two_ck G_when_two)] noIter noMu noPrep
theorem when_Time_T_ok (G_when_Is : Int → Option when_Is_R) (G_when_Date : Int → Option when_Date_R) (G_when_two : Int → Option when_two_R) (H_when_Is : CK.OK Go.Proofs.Try.prog 10 (when_Is_ck G_when_Is)) (H_when_Date : CK.OK Go.Proofs.Try.prog 18 (when_Date_ck G_when_Date)) (H_when_two : CK.OK Go.Proofs.Try.prog 19 (when_two_ck G_when_two)) : TabOK Go.Proofs.Try.prog (when_Time_T G_when_Is G_when_Date G_when_two) := by
  have hl : ∀ p ∈ ([(10, when_Is_ck G_when_Is), (18, when_Date_ck G_when_Date), (19, when_two_ck G_when_two)] : Cks), p.2.OK Go.Proofs.Try.prog p.1 := fun p hp => by
    simp only [List.mem_cons, List.not_mem_nil, or_false] at hp
    rcases hp with rfl | rfl | rfl <;> assumption
  exact tabG_ok mixed named hl noIter_ok
theorem when_Time_nodup (G_when_Is : Int → Option when_Is_R) (G_when_Date : Int → Option when_Date_R) (G_when_two : Int → Option when_two_R) : nodupB ((blocksOf (bodyOf (when_Time_T G_when_Is G_when_Date G_when_two) 8)).map (·.1)) = true := by kernel_rfl
def when_Time_hk0 (M : Nat) (G_when_Is : Int → Option when_Is_R) (G_when_Date : Int → Option when_Date_R) (G_when_two : Int → Option when_two_R) : Hks := []
theorem when_Time_hk0_ok (M : Nat) (G_when_Is : Int → Option when_Is_R) (G_when_Date : Int → Option when_Date_R) (G_when_two : Int → Option when_two_R) (_ : TabOK Go.Proofs.Try.prog (when_Time_T G_when_Is G_when_Date G_when_two)) : HksOK Go.Proofs.Try.prog (ctxOf (when_Time_T G_when_Is G_when_Date G_when_two) (evalK (when_Time_T G_when_Is G_when_Date G_when_two) 20) 8) (bodyOf (when_Time_T G_when_Is G_when_Date G_when_two) 8) (when_Time_hk0 M G_when_Is G_when_Date G_when_two) := .nil
noncomputable def when_Time_B (M : Nat) (G_when_Is : Int → Option when_Is_R) (G_when_Date : Int → Option when_Date_R) (G_when_two : Int → Option when_two_R) (a0 : Int) : Option Res :=
  bindG (G_when_Is (a0)) (fun r1 => bif !r1 then (some (AV.one true [CV.d (DV.int IntKind.u8 0), CV.own 0 (DV.ints IntKind.u8 []), CV.own 1 (DV.sl 3 [])], [])) else (bindG (G_when_Date (a0)) (fun r2 => bindG (G_when_two (r2.fst)) (fun r3 => bif leI 2050 r2.fst then (bindG (G_when_two (IntKind.wrap IntKind.i64 (Int.tdiv r2.fst 100))) (fun r4 => bindG (G_when_two (r2.fst)) (fun r5 => bif leN ((DV.count (DV.ints IntKind.u8 r4) + DV.count (DV.ints IntKind.u8 r5)) * 1) 140737488355328 then (bindG (G_when_two (r2.snd.fst)) (fun r6 => bif leN ((DV.count (DV.ints IntKind.u8 (r4 ++ r5)) + DV.count (DV.ints IntKind.u8 r6)) * 1) 140737488355328 then (bindG (G_when_two (r2.snd.snd.fst)) (fun r7 => bif leN ((DV.count (DV.ints IntKind.u8 (r4 ++ r5 ++ r6)) + DV.count (DV.ints IntKind.u8 r7)) * 1) 140737488355328 then (bindG (G_when_two (r2.snd.snd.snd.fst)) (fun r8 => bif leN ((DV.count (DV.ints IntKind.u8 (r4 ++ r5 ++ r6 ++ r7)) + DV.count (DV.ints IntKind.u8 r8)) * 1) 140737488355328 then (bindG (G_when_two (r2.snd.snd.snd.snd.fst)) (fun r9 => bif leN ((DV.count (DV.ints IntKind.u8 (r4 ++ r5 ++ r6 ++ r7 ++ r8)) + DV.count (DV.ints IntKind.u8 r9)) * 1) 140737488355328 then (bindG (G_when_two (r2.snd.snd.snd.snd.snd)) (fun r10 => bif leN ((DV.count (DV.ints IntKind.u8 (r4 ++ r5 ++ r6 ++ r7 ++ r8 ++ r9)) + DV.count (DV.ints IntKind.u8 r10)) * 1) 140737488355328 then (bif leN ((DV.count (DV.ints IntKind.u8 (r4 ++ r5 ++ r6 ++ r7 ++ r8 ++ r9 ++ r10)) + 1) * 1) 140737488355328 then (some (AV.one true [CV.d (DV.int IntKind.u8 24), CV.own 0 (DV.ints IntKind.u8 (r4 ++ r5 ++ r6 ++ r7 ++ r8 ++ r9 ++ r10 ++ [90])), CV.own 1 (DV.sl 3 [])], [])) else (none)) else (none))) else (none))) else (none))) else (none))) else (none))) else (none)))) else (bindG (G_when_two (r2.snd.fst)) (fun r11 => bif leN ((DV.count (DV.ints IntKind.u8 r3) + DV.count (DV.ints IntKind.u8 r11)) * 1) 140737488355328 then (bindG (G_when_two (r2.snd.snd.fst)) (fun r12 => bif leN ((DV.count (DV.ints IntKind.u8 (r3 ++ r11)) + DV.count (DV.ints IntKind.u8 r12)) * 1) 140737488355328 then (bindG (G_when_two (r2.snd.snd.snd.fst)) (fun r13 => bif leN ((DV.count (DV.ints IntKind.u8 (r3 ++ r11 ++ r12)) + DV.count (DV.ints IntKind.u8 r13)) * 1) 140737488355328 then (bindG (G_when_two (r2.snd.snd.snd.snd.fst)) (fun r14 => bif leN ((DV.count (DV.ints IntKind.u8 (r3 ++ r11 ++ r12 ++ r13)) + DV.count (DV.ints IntKind.u8 r14)) * 1) 140737488355328 then (bindG (G_when_two (r2.snd.snd.snd.snd.snd)) (fun r15 => bif leN ((DV.count (DV.ints IntKind.u8 (r3 ++ r11 ++ r12 ++ r13 ++ r14)) + DV.count (DV.ints IntKind.u8 r15)) * 1) 140737488355328 then (bif leN ((DV.count (DV.ints IntKind.u8 (r3 ++ r11 ++ r12 ++ r13 ++ r14 ++ r15)) + 1) * 1) 140737488355328 then (some (AV.one true [CV.d (DV.int IntKind.u8 23), CV.own 0 (DV.ints IntKind.u8 (r3 ++ r11 ++ r12 ++ r13 ++ r14 ++ r15 ++ [90])), CV.own 1 (DV.sl 3 [])], [])) else (none)) else (none))) else (none))) else (none))) else (none))) else (none)))))))
theorem when_Time_B_eq (M : Nat) (G_when_Is : Int → Option when_Is_R) (G_when_Date : Int → Option when_Date_R) (G_when_two : Int → Option when_two_R) (a0 : Int) : evalBH (when_Time_T G_when_Is G_when_Date G_when_two) (findHk (when_Time_hk0 M G_when_Is G_when_Date G_when_two)) (evalK (when_Time_T G_when_Is G_when_Date G_when_two) 20) 8 [.one false [.d (DV.int IntKind.i64 a0)]] [] = when_Time_B M G_when_Is G_when_Date G_when_two a0 := by kernel_rfl
noncomputable def when_Time_D (M : Nat) (G_when_Is : Int → Option when_Is_R) (G_when_Date : Int → Option when_Date_R) (G_when_two : Int → Option when_two_R) (a0 : Int) : Option when_Time_R := (when_Time_B M G_when_Is G_when_Date G_when_two a0).bind when_Time_dec
theorem when_Time_D_ok (M : Nat) (G_when_Is : Int → Option when_Is_R) (G_when_Date : Int → Option when_Date_R) (G_when_two : Int → Option when_two_R) (H_when_Is : CK.OK Go.Proofs.Try.prog 10 (when_Is_ck G_when_Is)) (H_when_Date : CK.OK Go.Proofs.Try.prog 18 (when_Date_ck G_when_Date)) (H_when_two : CK.OK Go.Proofs.Try.prog 19 (when_two_ck G_when_two)) (a0 : Int) (r : when_Time_R) (h : when_Time_D M G_when_Is G_when_Date G_when_two a0 = some r) : CallOK Go.Proofs.Try.prog 8 [.one false [.d (DV.int IntKind.i64 a0)]] [] (when_Time_enc r) := by
  obtain ⟨res, h1, h2⟩ := Option.bind_eq_some_iff.1 h
  have hT := when_Time_T_ok G_when_Is G_when_Date G_when_two H_when_Is H_when_Date H_when_two
  have this := evalG_ok hT (when_Time_hk0_ok M G_when_Is G_when_Date G_when_two hT) (when_Time_nodup G_when_Is G_when_Date G_when_two) (fun _ _ _ => rfl) ((when_Time_B_eq M G_when_Is G_when_Date G_when_two a0).trans h1)
  rwa [when_Time_dec_inv h2] at this
noncomputable def when_Time_F (M N : Nat) (a0 : Int) : Option when_Time_R := when_Time_D M (when_Is_F M N) (when_Date_F M N) (when_two_F M N) a0
theorem when_Time_F_ok (M N : Nat) : CK.OK Go.Proofs.Try.prog 8 (when_Time_ck (when_Time_F M N)) := when_Time_ck_ok fun a0 r h => when_Time_D_ok M _ _ _ (when_Is_F_ok M N) (when_Date_F_ok M N) (when_two_F_ok M N) a0 r h
abbrev ref14_Is_R : Type := Bool
def ref14_Is_enc (r : ref14_Is_R) : Res := (.one false [.d (DV.bool r)], [])
def ref14_Is_dec (r : Res) : Option ref14_Is_R := match r with
  | (.one false [.d (DV.bool x0)], []) => some x0
  | _ => none
theorem ref14_Is_dec_inv {r : Res} {x : ref14_Is_R} (h : ref14_Is_dec r = some x) : r = ref14_Is_enc x := by
  unfold ref14_Is_dec at h
  split at h
  · obtain rfl := Option.some.inj h; rfl
  · cases h
noncomputable def ref14_Is_ck (D : Int → Option ref14_Is_R) : CK := fun avs bs => match avs, bs with
  | [.one false [.d (DV.int IntKind.i64 a0)]], [] => CallK.via (D (a0)) ref14_Is_enc
  | _, _ => CallK.of none
theorem ref14_Is_ck_ok {D : Int → Option ref14_Is_R} (h : ∀ (a0 : Int), ∀ r, D (a0) = some r → CallOK Go.Proofs.Try.prog 9 [.one false [.d (DV.int IntKind.i64 a0)]] [] (ref14_Is_enc r)) : CK.OK Go.Proofs.Try.prog 9 (ref14_Is_ck D) := by
  intro avs bs r hr
  unfold ref14_Is_ck at hr
  split at hr
  · obtain ⟨x, hx, rfl⟩ := via_some hr
    exact h _ x hx
  · exact (none_some hr).elim
noncomputable def ref14_Is_T : Tab := tabG Go.Proofs.Try.prog hints [] noIter noMu noPrep
theorem ref14_Is_T_ok : TabOK Go.Proofs.Try.prog (ref14_Is_T) := by
  have hl : ∀ p ∈ ([] : Cks), p.2.OK Go.Proofs.Try.prog p.1 := fun _ h => by cases h
  exact tabG_ok mixed named hl noIter_ok
theorem ref14_Is_nodup : nodupB ((blocksOf (bodyOf (ref14_Is_T) 9)).map (·.1)) = true := by kernel_rfl
def ref14_Is_hk0 (M : Nat) : Hks := []
theorem ref14_Is_hk0_ok (M : Nat) (_ : TabOK Go.Proofs.Try.prog (ref14_Is_T)) : HksOK Go.Proofs.Try.prog (ctxOf (ref14_Is_T) (evalK (ref14_Is_T) 20) 9) (bodyOf (ref14_Is_T) 9) (ref14_Is_hk0 M) := .nil
noncomputable def ref14_Is_B (M : Nat) (a0 : Int) : Option Res :=
  bif leI (-631152000) a0 then (some (AV.one false [CV.d (DV.bool (leI a0 253402300799))], [])) else (some (AV.one false [CV.d (DV.bool false)], []))
theorem ref14_Is_B_eq (M : Nat) (a0 : Int) : evalBH (ref14_Is_T) (findHk (ref14_Is_hk0 M)) (evalK (ref14_Is_T) 20) 9 [.one false [.d (DV.int IntKind.i64 a0)]] [] = ref14_Is_B M a0 := by kernel_rfl
noncomputable def ref14_Is_D (M : Nat) (a0 : Int) : Option ref14_Is_R := (ref14_Is_B M a0).bind ref14_Is_dec
theorem ref14_Is_D_ok (M : Nat) (a0 : Int) (r : ref14_Is_R) (h : ref14_Is_D M a0 = some r) : CallOK Go.Proofs.Try.prog 9 [.one false [.d (DV.int IntKind.i64 a0)]] [] (ref14_Is_enc r) := by
  obtain ⟨res, h1, h2⟩ := Option.bind_eq_some_iff.1 h
  have hT := ref14_Is_T_ok
  have this := evalG_ok hT (ref14_Is_hk0_ok M hT) (ref14_Is_nodup) (fun _ _ _ => rfl) ((ref14_Is_B_eq M a0).trans h1)
  rwa [ref14_Is_dec_inv h2] at this
noncomputable def ref14_Is_F (M N : Nat) (a0 : Int) : Option ref14_Is_R := ref14_Is_D M a0
theorem ref14_Is_F_ok (M N : Nat) : CK.OK Go.Proofs.Try.prog 9 (ref14_Is_ck (ref14_Is_F M N)) := ref14_Is_ck_ok fun a0 r h => ref14_Is_D_ok M a0 r h
abbrev ref14_long_R : Type := Bool
def ref14_long_enc (r : ref14_long_R) : Res := (.one false [.d (DV.bool r)], [])
def ref14_long_dec (r : Res) : Option ref14_long_R := match r with
  | (.one false [.d (DV.bool x0)], []) => some x0
  | _ => none
theorem ref14_long_dec_inv {r : Res} {x : ref14_long_R} (h : ref14_long_dec r = some x) : r = ref14_long_enc x := by
  unfold ref14_long_dec at h
  split at h
  · obtain rfl := Option.some.inj h; rfl
  · cases h
noncomputable def ref14_long_ck (D : Int → Option ref14_long_R) : CK := fun avs bs => match avs, bs with
  | [.one false [.d (DV.int IntKind.i64 a0)]], [] => CallK.via (D (a0)) ref14_long_enc
  | _, _ => CallK.of none
theorem ref14_long_ck_ok {D : Int → Option ref14_long_R} (h : ∀ (a0 : Int), ∀ r, D (a0) = some r → CallOK Go.Proofs.Try.prog 24 [.one false [.d (DV.int IntKind.i64 a0)]] [] (ref14_long_enc r)) : CK.OK Go.Proofs.Try.prog 24 (ref14_long_ck D) := by
  intro avs bs r hr
  unfold ref14_long_ck at hr
  split at hr
  · obtain ⟨x, hx, rfl⟩ := via_some hr
    exact h _ x hx
  · exact (none_some hr).elim
noncomputable def ref14_long_T : Tab := tabG Go.Proofs.Try.prog hints [] noIter noMu noPrep
theorem ref14_long_T_ok : TabOK Go.Proofs.Try.prog (ref14_long_T) := by
  have hl : ∀ p ∈ ([] : Cks), p.2.OK Go.Proofs.Try.prog p.1 := fun _ h => by cases h
  exact tabG_ok mixed named hl noIter_ok
theorem ref14_long_nodup : nodupB ((blocksOf (bodyOf (ref14_long_T) 24)).map (·.1)) = true := by kernel_rfl
def ref14_long_hk0 (M : Nat) : Hks := []
theorem ref14_long_hk0_ok (M : Nat) (_ : TabOK Go.Proofs.Try.prog (ref14_long_T)) : HksOK Go.Proofs.Try.prog (ctxOf (ref14_long_T) (evalK (ref14_long_T) 20) 24) (bodyOf (ref14_long_T) 24) (ref14_long_hk0 M) := .nil
noncomputable def ref14_long_B (M : Nat) (a0 : Int) : Option Res :=
  bif eqI (Int.tmod a0 4) 0 then (bif !eqI (Int.tmod a0 100) 0 then (some (AV.one false [CV.d (DV.bool true)], [])) else (some (AV.one false [CV.d (DV.bool (eqI (Int.tmod a0 400) 0))], []))) else (some (AV.one false [CV.d (DV.bool (eqI (Int.tmod a0 400) 0))], []))
theorem ref14_long_B_eq (M : Nat) (a0 : Int) : evalBH (ref14_long_T) (findHk (ref14_long_hk0 M)) (evalK (ref14_long_T) 20) 24 [.one false [.d (DV.int IntKind.i64 a0)]] [] = ref14_long_B M a0 := by kernel_rfl
noncomputable def ref14_long_D (M : Nat) (a0 : Int) : Option ref14_long_R := (ref14_long_B M a0).bind ref14_long_dec
theorem ref14_long_D_ok (M : Nat) (a0 : Int) (r : ref14_long_R) (h : ref14_long_D M a0 = some r) : CallOK Go.Proofs.Try.prog 24 [.one false [.d (DV.int IntKind.i64 a0)]] [] (ref14_long_enc r) := by
  obtain ⟨res, h1, h2⟩ := Option.bind_eq_some_iff.1 h
  have hT := ref14_long_T_ok
  have this := evalG_ok hT (ref14_long_hk0_ok M hT) (ref14_long_nodup) (fun _ _ _ => rfl) ((ref14_long_B_eq M a0).trans h1)
  rwa [ref14_long_dec_inv h2] at this
noncomputable def ref14_long_F (M N : Nat) (a0 : Int) : Option ref14_long_R := ref14_long_D M a0
theorem ref14_long_F_ok (M N : Nat) : CK.OK Go.Proofs.Try.prog 24 (ref14_long_ck (ref14_long_F M N)) := ref14_long_ck_ok fun a0 r h => ref14_long_D_ok M a0 r h
abbrev ref14_days_R : Type := Int
def ref14_days_enc (r : ref14_days_R) : Res := (.one false [.d (DV.int IntKind.i64 r)], [])
def ref14_days_dec (r : Res) : Option ref14_days_R := match r with
  | (.one false [.d (DV.int IntKind.i64 x0)], []) => some x0
  | _ => none
theorem ref14_days_dec_inv {r : Res} {x : ref14_days_R} (h : ref14_days_dec r = some x) : r = ref14_days_enc x := by
  unfold ref14_days_dec at h
  split at h
  · obtain rfl := Option.some.inj h; rfl
  · cases h
noncomputable def ref14_days_ck (D : Int → Int → Option ref14_days_R) : CK := fun avs bs => match avs, bs with
  | [.one false [.d (DV.int IntKind.i64 a0)], .one false [.d (DV.int IntKind.i64 a1)]], [] => CallK.via (D (a0) (a1)) ref14_days_enc
  | _, _ => CallK.of none
theorem ref14_days_ck_ok {D : Int → Int → Option ref14_days_R} (h : ∀ (a0 : Int) (a1 : Int), ∀ r, D (a0) (a1) = some r → CallOK Go.Proofs.Try.prog 25 [.one false [.d (DV.int IntKind.i64 a0)], .one false [.d (DV.int IntKind.i64 a1)]] [] (ref14_days_enc r)) : CK.OK Go.Proofs.Try.prog 25 (ref14_days_ck D) := by
  intro avs bs r hr
  unfold ref14_days_ck at hr
  split at hr
  · obtain ⟨x, hx, rfl⟩ := via_some hr
    exact h _ _ x hx
  · exact (none_some hr).elim
noncomputable def ref14_days_T (G_ref14_long : Int → Option ref14_long_R) : Tab := tabG Go.Proofs.Try.prog hints [(24, ref14_long_ck G_ref14_long)] noIter noMu noPrep
theorem ref14_days_T_ok (G_ref14_long : Int → Option ref14_long_R) (H_ref14_long : CK.OK Go.Proofs.Try.prog 24 (ref14_long_ck G_ref14_long)) : TabOK Go.Proofs.Try.prog (ref14_days_T G_ref14_long) := by
  have hl : ∀ p ∈ ([(24, ref14_long_ck G_ref14_long)] : Cks), p.2.OK Go.Proofs.Try.prog p.1 := fun p hp => by
    simp only [List.mem_cons, List.not_mem_nil, or_false] at hp
    rcases hp with rfl <;> assumption
  exact tabG_ok mixed named hl noIter_ok
theorem ref14_days_nodup (G_ref14_long : Int → Option ref14_long_R) : nodupB ((blocksOf (bodyOf (ref14_days_T G_ref14_long) 25)).map (·.1)) = true := by kernel_rfl
def ref14_days_hk0 (M : Nat) (G_ref14_long : Int → Option ref14_long_R) : Hks := []
theorem ref14_days_hk0_ok (M : Nat) (G_ref14_long : Int → Option ref14_long_R) (_ : TabOK Go.Proofs.Try.prog (ref14_days_T G_ref14_long)) : HksOK Go.Proofs.Try.prog (ctxOf (ref14_days_T G_ref14_long) (evalK (ref14_days_T G_ref14_long) 20) 25) (bodyOf (ref14_days_T G_ref14_long) 25) (ref14_days_hk0 M G_ref14_long) := .nil
noncomputable def ref14_days_B (M : Nat) (G_ref14_long : Int → Option ref14_long_R) (a0 : Int) (a1 : Int) : Option Res :=
  bif eqI a1 2 then (bindG (G_ref14_long (a0)) (fun r1 => bif r1 then (some (AV.one false [CV.d (DV.int IntKind.i64 29)], [])) else (nth ([31, 28, 31, 30, 31, 30, 31, 31, 30, 31, 30, 31]) (IntKind.wrap IntKind.i64 (a1 - 1)) (fun x2 => some (AV.one false [CV.d (DV.int IntKind.i64 x2)], []))))) else (nth ([31, 28, 31, 30, 31, 30, 31, 31, 30, 31, 30, 31]) (IntKind.wrap IntKind.i64 (a1 - 1)) (fun x3 => some (AV.one false [CV.d (DV.int IntKind.i64 x3)], [])))
theorem ref14_days_B_eq (M : Nat) (G_ref14_long : Int → Option ref14_long_R) (a0 : Int) (a1 : Int) : evalBH (ref14_days_T G_ref14_long) (findHk (ref14_days_hk0 M G_ref14_long)) (evalK (ref14_days_T G_ref14_long) 20) 25 [.one false [.d (DV.int IntKind.i64 a0)], .one false [.d (DV.int IntKind.i64 a1)]] [] = ref14_days_B M G_ref14_long a0 a1 := by kernel_rfl
noncomputable def ref14_days_D (M : Nat) (G_ref14_long : Int → Option ref14_long_R) (a0 : Int) (a1 : Int) : Option ref14_days_R := (ref14_days_B M G_ref14_long a0 a1).bind ref14_days_dec
theorem ref14_days_D_ok (M : Nat) (G_ref14_long : Int → Option ref14_long_R) (H_ref14_long : CK.OK Go.Proofs.Try.prog 24 (ref14_long_ck G_ref14_long)) (a0 : Int) (a1 : Int) (r : ref14_days_R) (h : ref14_days_D M G_ref14_long a0 a1 = some r) : CallOK Go.Proofs.Try.prog 25 [.one false [.d (DV.int IntKind.i64 a0)], .one false [.d (DV.int IntKind.i64 a1)]] [] (ref14_days_enc r) := by
  obtain ⟨res, h1, h2⟩ := Option.bind_eq_some_iff.1 h
  have hT := ref14_days_T_ok G_ref14_long H_ref14_long
  have this := evalG_ok hT (ref14_days_hk0_ok M G_ref14_long hT) (ref14_days_nodup G_ref14_long) (fun _ _ _ => rfl) ((ref14_days_B_eq M G_ref14_long a0 a1).trans h1)
  rwa [ref14_days_dec_inv h2] at this
noncomputable def ref14_days_F (M N : Nat) (a0 : Int) (a1 : Int) : Option ref14_days_R := ref14_days_D M (ref14_long_F M N) a0 a1
theorem ref14_days_F_ok (M N : Nat) : CK.OK Go.Proofs.Try.prog 25 (ref14_days_ck (ref14_days_F M N)) := ref14_days_ck_ok fun a0 a1 r h => ref14_days_D_ok M _ (ref14_long_F_ok M N) a0 a1 r h
abbrev ref14_Date_R : Type := Int × Int × Int × Int × Int × Int
def ref14_Date_enc (r : ref14_Date_R) : Res := (.one true [.d (DV.int IntKind.i64 r.1), .d (DV.int IntKind.i64 r.2.1), .d (DV.int IntKind.i64 r.2.2.1), .d (DV.int IntKind.i64 r.2.2.2.1), .d (DV.int IntKind.i64 r.2.2.2.2.1), .d (DV.int IntKind.i64 r.2.2.2.2.2)], [])
def ref14_Date_dec (r : Res) : Option ref14_Date_R := match r with
  | (.one true [.d (DV.int IntKind.i64 x0), .d (DV.int IntKind.i64 x1), .d (DV.int IntKind.i64 x2), .d (DV.int IntKind.i64 x3), .d (DV.int IntKind.i64 x4), .d (DV.int IntKind.i64 x5)], []) => some (x0, x1, x2, x3, x4, x5)
  | _ => none
theorem ref14_Date_dec_inv {r : Res} {x : ref14_Date_R} (h : ref14_Date_dec r = some x) : r = ref14_Date_enc x := by
  unfold ref14_Date_dec at h
  split at h
  · obtain rfl := Option.some.inj h; rfl
  · cases h
noncomputable def ref14_Date_ck (D : Int → Option ref14_Date_R) : CK := fun avs bs => match avs, bs with
  | [.one false [.d (DV.int IntKind.i64 a0)]], [] => CallK.via (D (a0)) ref14_Date_enc
  | _, _ => CallK.of none
theorem ref14_Date_ck_ok {D : Int → Option ref14_Date_R} (h : ∀ (a0 : Int), ∀ r, D (a0) = some r → CallOK Go.Proofs.Try.prog 17 [.one false [.d (DV.int IntKind.i64 a0)]] [] (ref14_Date_enc r)) : CK.OK Go.Proofs.Try.prog 17 (ref14_Date_ck D) := by
  intro avs bs r hr
  unfold ref14_Date_ck at hr
  split at hr
  · obtain ⟨x, hx, rfl⟩ := via_some hr
    exact h _ x hx
  · exact (none_some hr).elim
noncomputable def ref14_Date_T (G_ref14_Is : Int → Option ref14_Is_R) (G_ref14_long : Int → Option ref14_long_R) (G_ref14_days : Int → Int → Option ref14_days_R) : Tab := tabG Go.Proofs.Try.prog hints [(9, ref14_Is_ck G_ref14_Is), (24, ref14_long_ck G_ref14_long), (25, ref14_days_ck G_ref14_days)] noIter noMu noPrep
theorem ref14_Date_T_ok (G_ref14_Is : Int → Option ref14_Is_R) (G_ref14_long : Int → Option ref14_long_R) (G_ref14_days : Int → Int → Option ref14_days_R) (H_ref14_Is : CK.OK Go.Proofs.Try.prog 9 (ref14_Is_ck G_ref14_Is)) (H_ref14_long : CK.OK Go.Proofs.Try.prog 24 (ref14_long_ck G_ref14_long)) (H_ref14_days : CK.OK Go.Proofs.Try.prog 25 (ref14_days_ck G_ref14_days)) : TabOK Go.Proofs.Try.prog (ref14_Date_T G_ref14_Is G_ref14_long G_ref14_days) := by
  have hl : ∀ p ∈ ([(9, ref14_Is_ck G_ref14_Is), (24, ref14_long_ck G_ref14_long), (25, ref14_days_ck G_ref14_days)] : Cks), p.2.OK Go.Proofs.Try.prog p.1 := fun p hp => by
    simp only [List.mem_cons, List.not_mem_nil, or_false] at hp
    rcases hp with rfl | rfl | rfl <;> assumption
  exact tabG_ok mixed named hl noIter_ok
theorem ref14_Date_nodup (G_ref14_Is : Int → Option ref14_Is_R) (G_ref14_long : Int → Option ref14_long_R) (G_ref14_days : Int → Int → Option ref14_days_R) : nodupB ((blocksOf (bodyOf (ref14_Date_T G_ref14_Is G_ref14_long G_ref14_days) 17)).map (·.1)) = true := by kernel_rfl
def ref14_Date_hk0 (M : Nat) (G_ref14_Is : Int → Option ref14_Is_R) (G_ref14_long : Int → Option ref14_long_R) (G_ref14_days : Int → Int → Option ref14_days_R) : Hks := []
theorem ref14_Date_hk0_ok (M : Nat) (G_ref14_Is : Int → Option ref14_Is_R) (G_ref14_long : Int → Option ref14_long_R) (G_ref14_days : Int → Int → Option ref14_days_R) (_ : TabOK Go.Proofs.Try.prog (ref14_Date_T G_ref14_Is G_ref14_long G_ref14_days)) : HksOK Go.Proofs.Try.prog (ctxOf (ref14_Date_T G_ref14_Is G_ref14_long G_ref14_days) (evalK (ref14_Date_T G_ref14_Is G_ref14_long G_ref14_days) 20) 17) (bodyOf (ref14_Date_T G_ref14_Is G_ref14_long G_ref14_days) 17) (ref14_Date_hk0 M G_ref14_Is G_ref14_long G_ref14_days) := .nil
noncomputable def ref14_Date_s0 {R : Type} (M : Nat) (G_ref14_Is : Int → Option ref14_Is_R) (G_ref14_long : Int → Option ref14_long_R) (G_ref14_days : Int → Int → Option ref14_days_R) (k0 : Int → Int → Int → Int → Int → Int → Int → Int → Int → Option R) (rc : Int → Int → Int → Int → Int → Int → Int → Int → Int → Option R) (v2 : Int) (v3 : Int) (v4 : Int) (v5 : Int) (v6 : Int) (v7 : Int) (v8 : Int) (v9 : Int) (v10 : Int) : Option R :=
  bif leI 366 v2 then (bindG (G_ref14_long (v4)) (fun r11 => bif r11 then (rc (IntKind.wrap IntKind.i64 (IntKind.wrap IntKind.i64 (v2 - 365) - 1)) (v3) (IntKind.wrap IntKind.i64 (v4 + 1)) (v5) (v6) (v7) (v8) (v9) (v10)) else (rc (IntKind.wrap IntKind.i64 (v2 - 365)) (v3) (IntKind.wrap IntKind.i64 (v4 + 1)) (v5) (v6) (v7) (v8) (v9) (v10)))) else (bif leI 365 v2 then (bindG (G_ref14_long (v4)) (fun r12 => bif !r12 then (bindG (G_ref14_long (v4)) (fun r13 => bif r13 then (rc (IntKind.wrap IntKind.i64 (IntKind.wrap IntKind.i64 (v2 - 365) - 1)) (v3) (IntKind.wrap IntKind.i64 (v4 + 1)) (v5) (v6) (v7) (v8) (v9) (v10)) else (rc (IntKind.wrap IntKind.i64 (v2 - 365)) (v3) (IntKind.wrap IntKind.i64 (v4 + 1)) (v5) (v6) (v7) (v8) (v9) (v10)))) else (k0 (v2) (v3) (v4) (v5) (v6) (v7) (v8) (v9) (v10)))) else (k0 (v2) (v3) (v4) (v5) (v6) (v7) (v8) (v9) (v10)))
noncomputable def ref14_Date_l0 {R : Type} (M : Nat) (G_ref14_Is : Int → Option ref14_Is_R) (G_ref14_long : Int → Option ref14_long_R) (G_ref14_days : Int → Int → Option ref14_days_R) (k0 : Int → Int → Int → Int → Int → Int → Int → Int → Int → Option R) : Nat → Int → Int → Int → Int → Int → Int → Int → Int → Int → Option R
  | 0, _, _, _, _, _, _, _, _, _ => none
  | n + 1, v2, v3, v4, v5, v6, v7, v8, v9, v10 => ref14_Date_s0 M G_ref14_Is G_ref14_long G_ref14_days k0 (ref14_Date_l0 M G_ref14_Is G_ref14_long G_ref14_days k0 n) v2 v3 v4 v5 v6 v7 v8 v9 v10
theorem ref14_Date_s0_eq {R : Type} (M : Nat) (G_ref14_Is : Int → Option ref14_Is_R) (G_ref14_long : Int → Option ref14_long_R) (G_ref14_days : Int → Int → Option ref14_days_R) (n : Nat) (v2 : Int) (v3 : Int) (v4 : Int) (v5 : Int) (v6 : Int) (v7 : Int) (v8 : Int) (v9 : Int) (v10 : Int) (K : AX → St → Option R) :
  rG (ref14_Date_T (G_ref14_Is) (G_ref14_long) (G_ref14_days)) 17 (ref14_Date_hk0 M G_ref14_Is G_ref14_long G_ref14_days) 0 ([2, 3, 4, 5], [2, 50000, 1000000, 1000001, 1000002]) (houtOf ([2, 3, 4, 5], [2, 50000, 1000000, 1000001, 1000002]) [] ([2], [2, 50000, 1000000, 1000001, 1000002])) (n + 1) (mkS [(2, AV.one false [CV.ptr 2 0 none]), (3, AV.one false [CV.d (DV.int IntKind.i64 v2)]), (4, AV.one false [CV.d (DV.int IntKind.i64 v3)]), (5, AV.one false [CV.d (DV.int IntKind.i64 v4)])] [(2, [CV.d (DV.int IntKind.i64 v5), CV.d (DV.int IntKind.i64 v6), CV.d (DV.int IntKind.i64 v7), CV.d (DV.int IntKind.i64 v8), CV.d (DV.int IntKind.i64 v9), CV.d (DV.int IntKind.i64 v10)])]) K =
  ref14_Date_s0 M G_ref14_Is G_ref14_long G_ref14_days ((fun w14 w15 w16 w17 w18 w19 w20 w21 w22 => K .norm (mkS [(2, AV.one false [CV.ptr 2 0 none]), (3, AV.one false [CV.d (DV.int IntKind.i64 w14)]), (4, AV.one false [CV.d (DV.int IntKind.i64 w15)]), (5, AV.one false [CV.d (DV.int IntKind.i64 w16)])] [(2, [CV.d (DV.int IntKind.i64 w17), CV.d (DV.int IntKind.i64 w18), CV.d (DV.int IntKind.i64 w19), CV.d (DV.int IntKind.i64 w20), CV.d (DV.int IntKind.i64 w21), CV.d (DV.int IntKind.i64 w22)])]))) (fun v2 v3 v4 v5 v6 v7 v8 v9 v10 => rG (ref14_Date_T (G_ref14_Is) (G_ref14_long) (G_ref14_days)) 17 (ref14_Date_hk0 M G_ref14_Is G_ref14_long G_ref14_days) 0 ([2, 3, 4, 5], [2, 50000, 1000000, 1000001, 1000002]) (houtOf ([2, 3, 4, 5], [2, 50000, 1000000, 1000001, 1000002]) [] ([2], [2, 50000, 1000000, 1000001, 1000002])) n (mkS [(2, AV.one false [CV.ptr 2 0 none]), (3, AV.one false [CV.d (DV.int IntKind.i64 v2)]), (4, AV.one false [CV.d (DV.int IntKind.i64 v3)]), (5, AV.one false [CV.d (DV.int IntKind.i64 v4)])] [(2, [CV.d (DV.int IntKind.i64 v5), CV.d (DV.int IntKind.i64 v6), CV.d (DV.int IntKind.i64 v7), CV.d (DV.int IntKind.i64 v8), CV.d (DV.int IntKind.i64 v9), CV.d (DV.int IntKind.i64 v10)])]) K) v2 v3 v4 v5 v6 v7 v8 v9 v10 := by kernel_rfl
theorem ref14_Date_l0_eq {R : Type} (M : Nat) (G_ref14_Is : Int → Option ref14_Is_R) (G_ref14_long : Int → Option ref14_long_R) (G_ref14_days : Int → Int → Option ref14_days_R) (K : AX → St → Option R) : ∀ (n : Nat) (v2 : Int) (v3 : Int) (v4 : Int) (v5 : Int) (v6 : Int) (v7 : Int) (v8 : Int) (v9 : Int) (v10 : Int),
  rG (ref14_Date_T (G_ref14_Is) (G_ref14_long) (G_ref14_days)) 17 (ref14_Date_hk0 M G_ref14_Is G_ref14_long G_ref14_days) 0 ([2, 3, 4, 5], [2, 50000, 1000000, 1000001, 1000002]) (houtOf ([2, 3, 4, 5], [2, 50000, 1000000, 1000001, 1000002]) [] ([2], [2, 50000, 1000000, 1000001, 1000002])) n (mkS [(2, AV.one false [CV.ptr 2 0 none]), (3, AV.one false [CV.d (DV.int IntKind.i64 v2)]), (4, AV.one false [CV.d (DV.int IntKind.i64 v3)]), (5, AV.one false [CV.d (DV.int IntKind.i64 v4)])] [(2, [CV.d (DV.int IntKind.i64 v5), CV.d (DV.int IntKind.i64 v6), CV.d (DV.int IntKind.i64 v7), CV.d (DV.int IntKind.i64 v8), CV.d (DV.int IntKind.i64 v9), CV.d (DV.int IntKind.i64 v10)])]) K = ref14_Date_l0 M G_ref14_Is G_ref14_long G_ref14_days ((fun w14 w15 w16 w17 w18 w19 w20 w21 w22 => K .norm (mkS [(2, AV.one false [CV.ptr 2 0 none]), (3, AV.one false [CV.d (DV.int IntKind.i64 w14)]), (4, AV.one false [CV.d (DV.int IntKind.i64 w15)]), (5, AV.one false [CV.d (DV.int IntKind.i64 w16)])] [(2, [CV.d (DV.int IntKind.i64 w17), CV.d (DV.int IntKind.i64 w18), CV.d (DV.int IntKind.i64 w19), CV.d (DV.int IntKind.i64 w20), CV.d (DV.int IntKind.i64 w21), CV.d (DV.int IntKind.i64 w22)])]))) n v2 v3 v4 v5 v6 v7 v8 v9 v10
  | 0, _, _, _, _, _, _, _, _, _ => rfl
  | n + 1, v2, v3, v4, v5, v6, v7, v8, v9, v10 => by
    have h : (fun v2 v3 v4 v5 v6 v7 v8 v9 v10 => rG (ref14_Date_T (G_ref14_Is) (G_ref14_long) (G_ref14_days)) 17 (ref14_Date_hk0 M G_ref14_Is G_ref14_long G_ref14_days) 0 ([2, 3, 4, 5], [2, 50000, 1000000, 1000001, 1000002]) (houtOf ([2, 3, 4, 5], [2, 50000, 1000000, 1000001, 1000002]) [] ([2], [2, 50000, 1000000, 1000001, 1000002])) n (mkS [(2, AV.one false [CV.ptr 2 0 none]), (3, AV.one false [CV.d (DV.int IntKind.i64 v2)]), (4, AV.one false [CV.d (DV.int IntKind.i64 v3)]), (5, AV.one false [CV.d (DV.int IntKind.i64 v4)])] [(2, [CV.d (DV.int IntKind.i64 v5), CV.d (DV.int IntKind.i64 v6), CV.d (DV.int IntKind.i64 v7), CV.d (DV.int IntKind.i64 v8), CV.d (DV.int IntKind.i64 v9), CV.d (DV.int IntKind.i64 v10)])]) K) = ref14_Date_l0 M G_ref14_Is G_ref14_long G_ref14_days ((fun w14 w15 w16 w17 w18 w19 w20 w21 w22 => K .norm (mkS [(2, AV.one false [CV.ptr 2 0 none]), (3, AV.one false [CV.d (DV.int IntKind.i64 w14)]), (4, AV.one false [CV.d (DV.int IntKind.i64 w15)]), (5, AV.one false [CV.d (DV.int IntKind.i64 w16)])] [(2, [CV.d (DV.int IntKind.i64 w17), CV.d (DV.int IntKind.i64 w18), CV.d (DV.int IntKind.i64 w19), CV.d (DV.int IntKind.i64 w20), CV.d (DV.int IntKind.i64 w21), CV.d (DV.int IntKind.i64 w22)])]))) n := by funext v2 v3 v4 v5 v6 v7 v8 v9 v10; exact ref14_Date_l0_eq M G_ref14_Is G_ref14_long G_ref14_days K n v2 v3 v4 v5 v6 v7 v8 v9 v10
    rw [ref14_Date_s0_eq, h]; rfl
noncomputable def ref14_Date_l0_hook (M : Nat) (G_ref14_Is : Int → Option ref14_Is_R) (G_ref14_long : Int → Option ref14_long_R) (G_ref14_days : Int → Int → Option ref14_days_R) : HookS := ⟨fun s K => g1 (s.tm 2) fun c1 => gP 2 0 c1 <| g1 (s.tm 3) fun c2 => gD c2 fun c3 => asI IntKind.i64 c3 fun v2 => g1 (s.tm 4) fun c4 => gD c4 fun c5 => asI IntKind.i64 c5 fun v3 => g1 (s.tm 5) fun c6 => gD c6 fun c7 => asI IntKind.i64 c7 fun v4 => gX (s.bx 2) fun c8 => gC c8 fun c9 c10 => gD c9 fun c11 => asI IntKind.i64 c11 fun v5 => gC c10 fun c12 c13 => gD c12 fun c14 => asI IntKind.i64 c14 fun v6 => gC c13 fun c15 c16 => gD c15 fun c17 => asI IntKind.i64 c17 fun v7 => gC c16 fun c18 c19 => gD c18 fun c20 => asI IntKind.i64 c20 fun v8 => gC c19 fun c21 c22 => gD c21 fun c23 => asI IntKind.i64 c23 fun v9 => gC c22 fun c24 c25 => gD c24 fun c26 => asI IntKind.i64 c26 fun v10 => gN c25 <|  ref14_Date_l0 M G_ref14_Is G_ref14_long G_ref14_days ((fun w14 w15 w16 w17 w18 w19 w20 w21 w22 => K .norm (mkS [(2, AV.one false [CV.ptr 2 0 none]), (3, AV.one false [CV.d (DV.int IntKind.i64 w14)]), (4, AV.one false [CV.d (DV.int IntKind.i64 w15)]), (5, AV.one false [CV.d (DV.int IntKind.i64 w16)])] [(2, [CV.d (DV.int IntKind.i64 w17), CV.d (DV.int IntKind.i64 w18), CV.d (DV.int IntKind.i64 w19), CV.d (DV.int IntKind.i64 w20), CV.d (DV.int IntKind.i64 w21), CV.d (DV.int IntKind.i64 w22)])]))) M v2 v3 v4 v5 v6 v7 v8 v9 v10⟩
noncomputable def ref14_Date_hk1 (M : Nat) (G_ref14_Is : Int → Option ref14_Is_R) (G_ref14_long : Int → Option ref14_long_R) (G_ref14_days : Int → Int → Option ref14_days_R) : Hks := (0, ref14_Date_l0_hook M G_ref14_Is G_ref14_long G_ref14_days) :: ref14_Date_hk0 M G_ref14_Is G_ref14_long G_ref14_days
theorem ref14_Date_hk1_ok (M : Nat) (G_ref14_Is : Int → Option ref14_Is_R) (G_ref14_long : Int → Option ref14_long_R) (G_ref14_days : Int → Int → Option ref14_days_R) (hT : TabOK Go.Proofs.Try.prog (ref14_Date_T (G_ref14_Is) (G_ref14_long) (G_ref14_days))) : HksOK Go.Proofs.Try.prog (ctxOf (ref14_Date_T (G_ref14_Is) (G_ref14_long) (G_ref14_days)) (evalK (ref14_Date_T (G_ref14_Is) (G_ref14_long) (G_ref14_days)) 20) 17) (bodyOf (ref14_Date_T (G_ref14_Is) (G_ref14_long) (G_ref14_days)) 17) (ref14_Date_hk1 M G_ref14_Is G_ref14_long G_ref14_days) := by
  refine .cons (loop_hook (ctx_ok hT 17).1 (ctx_ok hT 17).2 mixed (l := ref14_Date_hk0 M G_ref14_Is G_ref14_long G_ref14_days) (ref14_Date_hk0_ok M G_ref14_Is G_ref14_long G_ref14_days hT) (ref14_Date_nodup G_ref14_Is G_ref14_long G_ref14_days) (i := 0) (hin := ([2, 3, 4, 5], [2, 50000, 1000000, 1000001, 1000002])) (hout := (houtOf ([2, 3, 4, 5], [2, 50000, 1000000, 1000001, 1000002]) [] ([2], [2, 50000, 1000000, 1000001, 1000002]))) (fuel := (ref14_Date_T (G_ref14_Is) (G_ref14_long) (G_ref14_days)).fuel) (hint := (ref14_Date_T (G_ref14_Is) (G_ref14_long) (G_ref14_days)).hint 17) (by kernel_rfl) fun s K r q0 => ?_) (ref14_Date_hk0_ok M G_ref14_Is G_ref14_long G_ref14_days hT)
  obtain ⟨c1, h2, q1⟩ := g1_some q0
  obtain ⟨rfl, q2⟩ := gP_some q1
  obtain ⟨c2, h3, q3⟩ := g1_some q2
  obtain ⟨c3, rfl, q4⟩ := gD_some q3
  obtain ⟨v2, rfl, q5⟩ := asI_some q4
  obtain ⟨c4, h4, q6⟩ := g1_some q5
  obtain ⟨c5, rfl, q7⟩ := gD_some q6
  obtain ⟨v3, rfl, q8⟩ := asI_some q7
  obtain ⟨c6, h5, q9⟩ := g1_some q8
  obtain ⟨c7, rfl, q10⟩ := gD_some q9
  obtain ⟨v4, rfl, q11⟩ := asI_some q10
  obtain ⟨c8, b2, q12⟩ := gX_some q11
  obtain ⟨c9, c10, rfl, q13⟩ := gC_some q12
  obtain ⟨c11, rfl, q14⟩ := gD_some q13
  obtain ⟨v5, rfl, q15⟩ := asI_some q14
  obtain ⟨c12, c13, rfl, q16⟩ := gC_some q15
  obtain ⟨c14, rfl, q17⟩ := gD_some q16
  obtain ⟨v6, rfl, q18⟩ := asI_some q17
  obtain ⟨c15, c16, rfl, q19⟩ := gC_some q18
  obtain ⟨c17, rfl, q20⟩ := gD_some q19
  obtain ⟨v7, rfl, q21⟩ := asI_some q20
  obtain ⟨c18, c19, rfl, q22⟩ := gC_some q21
  obtain ⟨c20, rfl, q23⟩ := gD_some q22
  obtain ⟨v8, rfl, q24⟩ := asI_some q23
  obtain ⟨c21, c22, rfl, q25⟩ := gC_some q24
  obtain ⟨c23, rfl, q26⟩ := gD_some q25
  obtain ⟨v9, rfl, q27⟩ := asI_some q26
  obtain ⟨c24, c25, rfl, q28⟩ := gC_some q27
  obtain ⟨c26, rfl, q29⟩ := gD_some q28
  obtain ⟨v10, rfl, q30⟩ := asI_some q29
  obtain ⟨rfl, q31⟩ := gN_some q30
  have hs := q31
  exact ⟨M, mkS [(2, AV.one false [CV.ptr 2 0 none]), (3, AV.one false [CV.d (DV.int IntKind.i64 v2)]), (4, AV.one false [CV.d (DV.int IntKind.i64 v3)]), (5, AV.one false [CV.d (DV.int IntKind.i64 v4)])] [(2, [CV.d (DV.int IntKind.i64 v5), CV.d (DV.int IntKind.i64 v6), CV.d (DV.int IntKind.i64 v7), CV.d (DV.int IntKind.i64 v8), CV.d (DV.int IntKind.i64 v9), CV.d (DV.int IntKind.i64 v10)])], mkS_weak _ _ (by simp [*]) (by simp [*]), (ref14_Date_l0_eq M G_ref14_Is G_ref14_long G_ref14_days K M v2 v3 v4 v5 v6 v7 v8 v9 v10).trans hs⟩
noncomputable def ref14_Date_s2 {R : Type} (M : Nat) (G_ref14_Is : Int → Option ref14_Is_R) (G_ref14_long : Int → Option ref14_long_R) (G_ref14_days : Int → Int → Option ref14_days_R) (k0 : Int → Int → Int → Int → Int → Int → Int → Int → Int → Int → Option R) (rc : Int → Int → Int → Int → Int → Int → Int → Int → Int → Int → Option R) (v32 : Int) (v33 : Int) (v34 : Int) (v35 : Int) (v36 : Int) (v37 : Int) (v38 : Int) (v39 : Int) (v40 : Int) (v41 : Int) : Option R :=
  bindG (G_ref14_days (v34) (v35)) (fun r42 => bif leI r42 v32 then (bindG (G_ref14_days (v34) (v35)) (fun r43 => rc (IntKind.wrap IntKind.i64 (v32 - r43)) (v33) (v34) (IntKind.wrap IntKind.i64 (v35 + 1)) (v36) (v37) (v38) (v39) (v40) (v41))) else (k0 (v32) (v33) (v34) (v35) (v36) (v37) (v38) (v39) (v40) (v41)))
noncomputable def ref14_Date_l2 {R : Type} (M : Nat) (G_ref14_Is : Int → Option ref14_Is_R) (G_ref14_long : Int → Option ref14_long_R) (G_ref14_days : Int → Int → Option ref14_days_R) (k0 : Int → Int → Int → Int → Int → Int → Int → Int → Int → Int → Option R) : Nat → Int → Int → Int → Int → Int → Int → Int → Int → Int → Int → Option R
  | 0, _, _, _, _, _, _, _, _, _, _ => none
  | n + 1, v32, v33, v34, v35, v36, v37, v38, v39, v40, v41 => ref14_Date_s2 M G_ref14_Is G_ref14_long G_ref14_days k0 (ref14_Date_l2 M G_ref14_Is G_ref14_long G_ref14_days k0 n) v32 v33 v34 v35 v36 v37 v38 v39 v40 v41
theorem ref14_Date_s2_eq {R : Type} (M : Nat) (G_ref14_Is : Int → Option ref14_Is_R) (G_ref14_long : Int → Option ref14_long_R) (G_ref14_days : Int → Int → Option ref14_days_R) (n : Nat) (v32 : Int) (v33 : Int) (v34 : Int) (v35 : Int) (v36 : Int) (v37 : Int) (v38 : Int) (v39 : Int) (v40 : Int) (v41 : Int) (K : AX → St → Option R) :
  rG (ref14_Date_T (G_ref14_Is) (G_ref14_long) (G_ref14_days)) 17 (ref14_Date_hk1 M G_ref14_Is G_ref14_long G_ref14_days) 2 ([2, 3, 4, 5, 6], [2, 50000, 1000000, 1000001, 1000002]) (houtOf ([2, 3, 4, 5, 6], [2, 50000, 1000000, 1000001, 1000002]) [] ([2], [2, 50000, 1000000, 1000001, 1000002])) (n + 1) (mkS [(2, AV.one false [CV.ptr 2 0 none]), (3, AV.one false [CV.d (DV.int IntKind.i64 v32)]), (4, AV.one false [CV.d (DV.int IntKind.i64 v33)]), (5, AV.one false [CV.d (DV.int IntKind.i64 v34)]), (6, AV.one false [CV.d (DV.int IntKind.i64 v35)])] [(2, [CV.d (DV.int IntKind.i64 v36), CV.d (DV.int IntKind.i64 v37), CV.d (DV.int IntKind.i64 v38), CV.d (DV.int IntKind.i64 v39), CV.d (DV.int IntKind.i64 v40), CV.d (DV.int IntKind.i64 v41)])]) K =
  ref14_Date_s2 M G_ref14_Is G_ref14_long G_ref14_days ((fun w44 w45 w46 w47 w48 w49 w50 w51 w52 w53 => K .norm (mkS [(2, AV.one false [CV.ptr 2 0 none]), (3, AV.one false [CV.d (DV.int IntKind.i64 w44)]), (4, AV.one false [CV.d (DV.int IntKind.i64 w45)]), (5, AV.one false [CV.d (DV.int IntKind.i64 w46)]), (6, AV.one false [CV.d (DV.int IntKind.i64 w47)])] [(2, [CV.d (DV.int IntKind.i64 w48), CV.d (DV.int IntKind.i64 w49), CV.d (DV.int IntKind.i64 w50), CV.d (DV.int IntKind.i64 w51), CV.d (DV.int IntKind.i64 w52), CV.d (DV.int IntKind.i64 w53)])]))) (fun v32 v33 v34 v35 v36 v37 v38 v39 v40 v41 => rG (ref14_Date_T (G_ref14_Is) (G_ref14_long) (G_ref14_days)) 17 (ref14_Date_hk1 M G_ref14_Is G_ref14_long G_ref14_days) 2 ([2, 3, 4, 5, 6], [2, 50000, 1000000, 1000001, 1000002]) (houtOf ([2, 3, 4, 5, 6], [2, 50000, 1000000, 1000001, 1000002]) [] ([2], [2, 50000, 1000000, 1000001, 1000002])) n (mkS [(2, AV.one false [CV.ptr 2 0 none]), (3, AV.one false [CV.d (DV.int IntKind.i64 v32)]), (4, AV.one false [CV.d (DV.int IntKind.i64 v33)]), (5, AV.one false [CV.d (DV.int IntKind.i64 v34)]), (6, AV.one false [CV.d (DV.int IntKind.i64 v35)])] [(2, [CV.d (DV.int IntKind.i64 v36), CV.d (DV.int IntKind.i64 v37), CV.d (DV.int IntKind.i64 v38), CV.d (DV.int IntKind.i64 v39), CV.d (DV.int IntKind.i64 v40), CV.d (DV.int IntKind.i64 v41)])]) K) v32 v33 v34 v35 v36 v37 v38 v39 v40 v41 := by kernel_rfl
theorem ref14_Date_l2_eq {R : Type} (M : Nat) (G_ref14_Is : Int → Option ref14_Is_R) (G_ref14_long : Int → Option ref14_long_R) (G_ref14_days : Int → Int → Option ref14_days_R) (K : AX → St → Option R) : ∀ (n : Nat) (v32 : Int) (v33 : Int) (v34 : Int) (v35 : Int) (v36 : Int) (v37 : Int) (v38 : Int) (v39 : Int) (v40 : Int) (v41 : Int),
  rG (ref14_Date_T (G_ref14_Is) (G_ref14_long) (G_ref14_days)) 17 (ref14_Date_hk1 M G_ref14_Is G_ref14_long G_ref14_days) 2 ([2, 3, 4, 5, 6], [2, 50000, 1000000, 1000001, 1000002]) (houtOf ([2, 3, 4, 5, 6], [2, 50000, 1000000, 1000001, 1000002]) [] ([2], [2, 50000, 1000000, 1000001, 1000002])) n (mkS [(2, AV.one false [CV.ptr 2 0 none]), (3, AV.one false [CV.d (DV.int IntKind.i64 v32)]), (4, AV.one false [CV.d (DV.int IntKind.i64 v33)]), (5, AV.one false [CV.d (DV.int IntKind.i64 v34)]), (6, AV.one false [CV.d (DV.int IntKind.i64 v35)])] [(2, [CV.d (DV.int IntKind.i64 v36), CV.d (DV.int IntKind.i64 v37), CV.d (DV.int IntKind.i64 v38), CV.d (DV.int IntKind.i64 v39), CV.d (DV.int IntKind.i64 v40), CV.d (DV.int IntKind.i64 v41)])]) K = ref14_Date_l2 M G_ref14_Is G_ref14_long G_ref14_days ((fun w44 w45 w46 w47 w48 w49 w50 w51 w52 w53 => K .norm (mkS [(2, AV.one false [CV.ptr 2 0 none]), (3, AV.one false [CV.d (DV.int IntKind.i64 w44)]), (4, AV.one false [CV.d (DV.int IntKind.i64 w45)]), (5, AV.one false [CV.d (DV.int IntKind.i64 w46)]), (6, AV.one false [CV.d (DV.int IntKind.i64 w47)])] [(2, [CV.d (DV.int IntKind.i64 w48), CV.d (DV.int IntKind.i64 w49), CV.d (DV.int IntKind.i64 w50), CV.d (DV.int IntKind.i64 w51), CV.d (DV.int IntKind.i64 w52), CV.d (DV.int IntKind.i64 w53)])]))) n v32 v33 v34 v35 v36 v37 v38 v39 v40 v41
  | 0, _, _, _, _, _, _, _, _, _, _ => rfl
  | n + 1, v32, v33, v34, v35, v36, v37, v38, v39, v40, v41 => by
    have h : (fun v32 v33 v34 v35 v36 v37 v38 v39 v40 v41 => rG (ref14_Date_T (G_ref14_Is) (G_ref14_long) (G_ref14_days)) 17 (ref14_Date_hk1 M G_ref14_Is G_ref14_long G_ref14_days) 2 ([2, 3, 4, 5, 6], [2, 50000, 1000000, 1000001, 1000002]) (houtOf ([2, 3, 4, 5, 6], [2, 50000, 1000000, 1000001, 1000002]) [] ([2], [2, 50000, 1000000, 1000001, 1000002])) n (mkS [(2, AV.one false [CV.ptr 2 0 none]), (3, AV.one false [CV.d (DV.int IntKind.i64 v32)]), (4, AV.one false [CV.d (DV.int IntKind.i64 v33)]), (5, AV.one false [CV.d (DV.int IntKind.i64 v34)]), (6, AV.one false [CV.d (DV.int IntKind.i64 v35)])] [(2, [CV.d (DV.int IntKind.i64 v36), CV.d (DV.int IntKind.i64 v37), CV.d (DV.int IntKind.i64 v38), CV.d (DV.int IntKind.i64 v39), CV.d (DV.int IntKind.i64 v40), CV.d (DV.int IntKind.i64 v41)])]) K) = ref14_Date_l2 M G_ref14_Is G_ref14_long G_ref14_days ((fun w44 w45 w46 w47 w48 w49 w50 w51 w52 w53 => K .norm (mkS [(2, AV.one false [CV.ptr 2 0 none]), (3, AV.one false [CV.d (DV.int IntKind.i64 w44)]), (4, AV.one false [CV.d (DV.int IntKind.i64 w45)]), (5, AV.one false [CV.d (DV.int IntKind.i64 w46)]), (6, AV.one false [CV.d (DV.int IntKind.i64 w47)])] [(2, [CV.d (DV.int IntKind.i64 w48), CV.d (DV.int IntKind.i64 w49), CV.d (DV.int IntKind.i64 w50), CV.d (DV.int IntKind.i64 w51), CV.d (DV.int IntKind.i64 w52), CV.d (DV.int IntKind.i64 w53)])]))) n := by funext v32 v33 v34 v35 v36 v37 v38 v39 v40 v41; exact ref14_Date_l2_eq M G_ref14_Is G_ref14_long G_ref14_days K n v32 v33 v34 v35 v36 v37 v38 v39 v40 v41
    rw [ref14_Date_s2_eq, h]; rfl
noncomputable def ref14_Date_l2_hook (M : Nat) (G_ref14_Is : Int → Option ref14_Is_R) (G_ref14_long : Int → Option ref14_long_R) (G_ref14_days : Int → Int → Option ref14_days_R) : HookS := ⟨fun s K => g1 (s.tm 2) fun c1 => gP 2 0 c1 <| g1 (s.tm 3) fun c2 => gD c2 fun c3 => asI IntKind.i64 c3 fun v32 => g1 (s.tm 4) fun c4 => gD c4 fun c5 => asI IntKind.i64 c5 fun v33 => g1 (s.tm 5) fun c6 => gD c6 fun c7 => asI IntKind.i64 c7 fun v34 => g1 (s.tm 6) fun c8 => gD c8 fun c9 => asI IntKind.i64 c9 fun v35 => gX (s.bx 2) fun c10 => gC c10 fun c11 c12 => gD c11 fun c13 => asI IntKind.i64 c13 fun v36 => gC c12 fun c14 c15 => gD c14 fun c16 => asI IntKind.i64 c16 fun v37 => gC c15 fun c17 c18 => gD c17 fun c19 => asI IntKind.i64 c19 fun v38 => gC c18 fun c20 c21 => gD c20 fun c22 => asI IntKind.i64 c22 fun v39 => gC c21 fun c23 c24 => gD c23 fun c25 => asI IntKind.i64 c25 fun v40 => gC c24 fun c26 c27 => gD c26 fun c28 => asI IntKind.i64 c28 fun v41 => gN c27 <|  ref14_Date_l2 M G_ref14_Is G_ref14_long G_ref14_days ((fun w44 w45 w46 w47 w48 w49 w50 w51 w52 w53 => K .norm (mkS [(2, AV.one false [CV.ptr 2 0 none]), (3, AV.one false [CV.d (DV.int IntKind.i64 w44)]), (4, AV.one false [CV.d (DV.int IntKind.i64 w45)]), (5, AV.one false [CV.d (DV.int IntKind.i64 w46)]), (6, AV.one false [CV.d (DV.int IntKind.i64 w47)])] [(2, [CV.d (DV.int IntKind.i64 w48), CV.d (DV.int IntKind.i64 w49), CV.d (DV.int IntKind.i64 w50), CV.d (DV.int IntKind.i64 w51), CV.d (DV.int IntKind.i64 w52), CV.d (DV.int IntKind.i64 w53)])]))) M v32 v33 v34 v35 v36 v37 v38 v39 v40 v41⟩
noncomputable def ref14_Date_hk2 (M : Nat) (G_ref14_Is : Int → Option ref14_Is_R) (G_ref14_long : Int → Option ref14_long_R) (G_ref14_days : Int → Int → Option ref14_days_R) : Hks := (2, ref14_Date_l2_hook M G_ref14_Is G_ref14_long G_ref14_days) :: ref14_Date_hk1 M G_ref14_Is G_ref14_long G_ref14_days
theorem ref14_Date_hk2_ok (M : Nat) (G_ref14_Is : Int → Option ref14_Is_R) (G_ref14_long : Int → Option ref14_long_R) (G_ref14_days : Int → Int → Option ref14_days_R) (hT : TabOK Go.Proofs.Try.prog (ref14_Date_T (G_ref14_Is) (G_ref14_long) (G_ref14_days))) : HksOK Go.Proofs.Try.prog (ctxOf (ref14_Date_T (G_ref14_Is) (G_ref14_long) (G_ref14_days)) (evalK (ref14_Date_T (G_ref14_Is) (G_ref14_long) (G_ref14_days)) 20) 17) (bodyOf (ref14_Date_T (G_ref14_Is) (G_ref14_long) (G_ref14_days)) 17) (ref14_Date_hk2 M G_ref14_Is G_ref14_long G_ref14_days) := by
  refine .cons (loop_hook (ctx_ok hT 17).1 (ctx_ok hT 17).2 mixed (l := ref14_Date_hk1 M G_ref14_Is G_ref14_long G_ref14_days) (ref14_Date_hk1_ok M G_ref14_Is G_ref14_long G_ref14_days hT) (ref14_Date_nodup G_ref14_Is G_ref14_long G_ref14_days) (i := 2) (hin := ([2, 3, 4, 5, 6], [2, 50000, 1000000, 1000001, 1000002])) (hout := (houtOf ([2, 3, 4, 5, 6], [2, 50000, 1000000, 1000001, 1000002]) [] ([2], [2, 50000, 1000000, 1000001, 1000002]))) (fuel := (ref14_Date_T (G_ref14_Is) (G_ref14_long) (G_ref14_days)).fuel) (hint := (ref14_Date_T (G_ref14_Is) (G_ref14_long) (G_ref14_days)).hint 17) (by kernel_rfl) fun s K r q0 => ?_) (ref14_Date_hk1_ok M G_ref14_Is G_ref14_long G_ref14_days hT)
  obtain ⟨c1, h2, q1⟩ := g1_some q0
  obtain ⟨rfl, q2⟩ := gP_some q1
  obtain ⟨c2, h3, q3⟩ := g1_some q2
  obtain ⟨c3, rfl, q4⟩ := gD_some q3
  obtain ⟨v32, rfl, q5⟩ := asI_some q4
  obtain ⟨c4, h4, q6⟩ := g1_some q5
  obtain ⟨c5, rfl, q7⟩ := gD_some q6
  obtain ⟨v33, rfl, q8⟩ := asI_some q7
  obtain ⟨c6, h5, q9⟩ := g1_some q8
  obtain ⟨c7, rfl, q10⟩ := gD_some q9
  obtain ⟨v34, rfl, q11⟩ := asI_some q10
  obtain ⟨c8, h6, q12⟩ := g1_some q11
  obtain ⟨c9, rfl, q13⟩ := gD_some q12
  obtain ⟨v35, rfl, q14⟩ := asI_some q13
  obtain ⟨c10, b2, q15⟩ := gX_some q14
  obtain ⟨c11, c12, rfl, q16⟩ := gC_some q15
  obtain ⟨c13, rfl, q17⟩ := gD_some q16
  obtain ⟨v36, rfl, q18⟩ := asI_some q17
  obtain ⟨c14, c15, rfl, q19⟩ := gC_some q18
  obtain ⟨c16, rfl, q20⟩ := gD_some q19
  obtain ⟨v37, rfl, q21⟩ := asI_some q20
  obtain ⟨c17, c18, rfl, q22⟩ := gC_some q21
  obtain ⟨c19, rfl, q23⟩ := gD_some q22
  obtain ⟨v38, rfl, q24⟩ := asI_some q23
  obtain ⟨c20, c21, rfl, q25⟩ := gC_some q24
  obtain ⟨c22, rfl, q26⟩ := gD_some q25
  obtain ⟨v39, rfl, q27⟩ := asI_some q26
  obtain ⟨c23, c24, rfl, q28⟩ := gC_some q27
  obtain ⟨c25, rfl, q29⟩ := gD_some q28
  obtain ⟨v40, rfl, q30⟩ := asI_some q29
  obtain ⟨c26, c27, rfl, q31⟩ := gC_some q30
  obtain ⟨c28, rfl, q32⟩ := gD_some q31
  obtain ⟨v41, rfl, q33⟩ := asI_some q32
  obtain ⟨rfl, q34⟩ := gN_some q33
  have hs := q34
  exact ⟨M, mkS [(2, AV.one false [CV.ptr 2 0 none]), (3, AV.one false [CV.d (DV.int IntKind.i64 v32)]), (4, AV.one false [CV.d (DV.int IntKind.i64 v33)]), (5, AV.one false [CV.d (DV.int IntKind.i64 v34)]), (6, AV.one false [CV.d (DV.int IntKind.i64 v35)])] [(2, [CV.d (DV.int IntKind.i64 v36), CV.d (DV.int IntKind.i64 v37), CV.d (DV.int IntKind.i64 v38), CV.d (DV.int IntKind.i64 v39), CV.d (DV.int IntKind.i64 v40), CV.d (DV.int IntKind.i64 v41)])], mkS_weak _ _ (by simp [*]) (by simp [*]), (ref14_Date_l2_eq M G_ref14_Is G_ref14_long G_ref14_days K M v32 v33 v34 v35 v36 v37 v38 v39 v40 v41).trans hs⟩
noncomputable def ref14_Date_B (M : Nat) (G_ref14_Is : Int → Option ref14_Is_R) (G_ref14_long : Int → Option ref14_long_R) (G_ref14_days : Int → Int → Option ref14_days_R) (a0 : Int) : Option Res :=
  bindG (G_ref14_Is (a0)) (fun r1 => bif !r1 then (some (AV.one true [CV.d (DV.int IntKind.i64 0), CV.d (DV.int IntKind.i64 0), CV.d (DV.int IntKind.i64 0), CV.d (DV.int IntKind.i64 0), CV.d (DV.int IntKind.i64 0), CV.d (DV.int IntKind.i64 0)], [])) else (ref14_Date_l0 (M) (G_ref14_Is) (G_ref14_long) (G_ref14_days) ((fun w23 w24 w25 w26 w27 w28 w29 w30 w31 => ref14_Date_l2 (M) (G_ref14_Is) (G_ref14_long) (G_ref14_days) ((fun w54 w55 w56 w57 w58 w59 w60 w61 w62 w63 => some (AV.one true [CV.d (DV.int IntKind.i64 w56), CV.d (DV.int IntKind.i64 w57), CV.d (DV.int IntKind.i64 (IntKind.wrap IntKind.i64 (w54 + 1))), CV.d (DV.int IntKind.i64 (IntKind.wrap IntKind.i64 (Int.tdiv w55 3600))), CV.d (DV.int IntKind.i64 (Int.tmod (IntKind.wrap IntKind.i64 (Int.tdiv w55 60)) 60)), CV.d (DV.int IntKind.i64 (Int.tmod w55 60))], []))) (M) (w23) (w24) (w25) (1) (w26) (w27) (w28) (w29) (w30) (w31))) (M) (IntKind.wrap IntKind.i64 (Int.tdiv (IntKind.wrap IntKind.i64 (a0 + 631152000)) 86400)) (Int.tmod (IntKind.wrap IntKind.i64 (a0 + 631152000)) 86400) (1950) (0) (0) (0) (0) (0) (0)))
theorem ref14_Date_B_eq (M : Nat) (G_ref14_Is : Int → Option ref14_Is_R) (G_ref14_long : Int → Option ref14_long_R) (G_ref14_days : Int → Int → Option ref14_days_R) (a0 : Int) : evalBH (ref14_Date_T G_ref14_Is G_ref14_long G_ref14_days) (findHk (ref14_Date_hk2 M G_ref14_Is G_ref14_long G_ref14_days)) (evalK (ref14_Date_T G_ref14_Is G_ref14_long G_ref14_days) 20) 17 [.one false [.d (DV.int IntKind.i64 a0)]] [] = ref14_Date_B M G_ref14_Is G_ref14_long G_ref14_days a0 := by kernel_rfl
noncomputable def ref14_Date_D (M : Nat) (G_ref14_Is : Int → Option ref14_Is_R) (G_ref14_long : Int → Option ref14_long_R) (G_ref14_days : Int → Int → Option ref14_days_R) (a0 : Int) : Option ref14_Date_R := (ref14_Date_B M G_ref14_Is G_ref14_long G_ref14_days a0).bind ref14_Date_dec
theorem ref14_Date_D_ok (M : Nat) (G_ref14_Is : Int → Option ref14_Is_R) (G_ref14_long : Int → Option ref14_long_R) (G_ref14_days : Int → Int → Option ref14_days_R) (H_ref14_Is : CK.OK Go.Proofs.Try.prog 9 (ref14_Is_ck G_ref14_Is)) (H_ref14_long : CK.OK Go.Proofs.Try.prog 24 (ref14_long_ck G_ref14_long)) (H_ref14_days : CK.OK Go.Proofs.Try.prog 25 (ref14_days_ck G_ref14_days)) (a0 : Int) (r : ref14_Date_R) (h : ref14_Date_D M G_ref14_Is G_ref14_long G_ref14_days a0 = some r) : CallOK Go.Proofs.Try.prog 17 [.one false [.d (DV.int IntKind.i64 a0)]] [] (ref14_Date_enc r) := by
  obtain ⟨res, h1, h2⟩ := Option.bind_eq_some_iff.1 h
  have hT := ref14_Date_T_ok G_ref14_Is G_ref14_long G_ref14_days H_ref14_Is H_ref14_long H_ref14_days
  have this := evalG_ok hT (ref14_Date_hk2_ok M G_ref14_Is G_ref14_long G_ref14_days hT) (ref14_Date_nodup G_ref14_Is G_ref14_long G_ref14_days) (fun _ _ _ => rfl) ((ref14_Date_B_eq M G_ref14_Is G_ref14_long G_ref14_days a0).trans h1)
  rwa [ref14_Date_dec_inv h2] at this
noncomputable def ref14_Date_F (M N : Nat) (a0 : Int) : Option ref14_Date_R := ref14_Date_D M (ref14_Is_F M N) (ref14_long_F M N) (ref14_days_F M N) a0
theorem ref14_Date_F_ok (M N : Nat) : CK.OK Go.Proofs.Try.prog 17 (ref14_Date_ck (ref14_Date_F M N)) := ref14_Date_ck_ok fun a0 r h => ref14_Date_D_ok M _ _ _ (ref14_Is_F_ok M N) (ref14_long_F_ok M N) (ref14_days_F_ok M N) a0 r h
abbrev ref14_two_R : Type := (List Int)
def ref14_two_enc (r : ref14_two_R) : Res := (.one false [.own 0 (DV.ints IntKind.u8 r)], [])
def ref14_two_dec (r : Res) : Option ref14_two_R := match r with
  | (.one false [.own 0 (DV.ints IntKind.u8 x0)], []) => some x0
  | _ => none
theorem ref14_two_dec_inv {r : Res} {x : ref14_two_R} (h : ref14_two_dec r = some x) : r = ref14_two_enc x := by
  unfold ref14_two_dec at h
  split at h
  · obtain rfl := Option.some.inj h; rfl
  · cases h
noncomputable def ref14_two_ck (D : Int → Option ref14_two_R) : CK := fun avs bs => match avs, bs with
  | [.one false [.d (DV.int IntKind.i64 a0)]], [] => CallK.via (D (a0)) ref14_two_enc
  | _, _ => CallK.of none
theorem ref14_two_ck_ok {D : Int → Option ref14_two_R} (h : ∀ (a0 : Int), ∀ r, D (a0) = some r → CallOK Go.Proofs.Try.prog 20 [.one false [.d (DV.int IntKind.i64 a0)]] [] (ref14_two_enc r)) : CK.OK Go.Proofs.Try.prog 20 (ref14_two_ck D) := by
  intro avs bs r hr
  unfold ref14_two_ck at hr
  split at hr
  · obtain ⟨x, hx, rfl⟩ := via_some hr
    exact h _ x hx
  · exact (none_some hr).elim
noncomputable def ref14_two_T : Tab := tabG Go.Proofs.Try.prog hints [] noIter noMu noPrep
theorem ref14_two_T_ok : TabOK Go.Proofs.Try.prog (ref14_two_T) := by
  have hl : ∀ p ∈ ([] : Cks), p.2.OK Go.Proofs.Try.prog p.1 := fun _ h => by cases h
  exact tabG_ok mixed named hl noIter_ok
theorem ref14_two_nodup : nodupB ((blocksOf (bodyOf (ref14_two_T) 20)).map (·.1)) = true := by kernel_rfl
def ref14_two_hk0 (M : Nat) : Hks := []
theorem ref14_two_hk0_ok (M : Nat) (_ : TabOK Go.Proofs.Try.prog (ref14_two_T)) : HksOK Go.Proofs.Try.prog (ctxOf (ref14_two_T) (evalK (ref14_two_T) 20) 20) (bodyOf (ref14_two_T) 20) (ref14_two_hk0 M) := .nil
noncomputable def ref14_two_B (M : Nat) (a0 : Int) : Option Res :=
  some (AV.one false [CV.own 0 (DV.ints IntKind.u8 [IntKind.wrap IntKind.u8 (IntKind.wrap IntKind.i64 (48 + Int.tmod (IntKind.wrap IntKind.i64 (Int.tdiv a0 10)) 10)), IntKind.wrap IntKind.u8 (IntKind.wrap IntKind.i64 (48 + Int.tmod a0 10))])], [])
theorem ref14_two_B_eq (M : Nat) (a0 : Int) : evalBH (ref14_two_T) (findHk (ref14_two_hk0 M)) (evalK (ref14_two_T) 20) 20 [.one false [.d (DV.int IntKind.i64 a0)]] [] = ref14_two_B M a0 := by kernel_rfl
noncomputable def ref14_two_D (M : Nat) (a0 : Int) : Option ref14_two_R := (ref14_two_B M a0).bind ref14_two_dec
theorem ref14_two_D_ok (M : Nat) (a0 : Int) (r : ref14_two_R) (h : ref14_two_D M a0 = some r) : CallOK Go.Proofs.Try.prog 20 [.one false [.d (DV.int IntKind.i64 a0)]] [] (ref14_two_enc r) := by
  obtain ⟨res, h1, h2⟩ := Option.bind_eq_some_iff.1 h
  have hT := ref14_two_T_ok
  have this := evalG_ok hT (ref14_two_hk0_ok M hT) (ref14_two_nodup) (fun _ _ _ => rfl) ((ref14_two_B_eq M a0).trans h1)
  rwa [ref14_two_dec_inv h2] at this
noncomputable def ref14_two_F (M N : Nat) (a0 : Int) : Option ref14_two_R := ref14_two_D M a0
theorem ref14_two_F_ok (M N : Nat) : CK.OK Go.Proofs.Try.prog 20 (ref14_two_ck (ref14_two_F M N)) := ref14_two_ck_ok fun a0 r h => ref14_two_D_ok M a0 r h
abbrev ref14_Time_R : Type := Int × (List Int) × (List (List DV))
def ref14_Time_enc (r : ref14_Time_R) : Res := (.one true [.d (DV.int IntKind.u8 r.1), .own 0 (DV.ints IntKind.u8 r.2.1), .own 1 (DV.sl 3 r.2.2)], [])
def ref14_Time_dec (r : Res) : Option ref14_Time_R := match r with
  | (.one true [.d (DV.int IntKind.u8 x0), .own 0 (DV.ints IntKind.u8 x1), .own 1 (DV.sl 3 x2)], []) => some (x0, x1, x2)
  | _ => none
theorem ref14_Time_dec_inv {r : Res} {x : ref14_Time_R} (h : ref14_Time_dec r = some x) : r = ref14_Time_enc x := by
  unfold ref14_Time_dec at h
  split at h
  · obtain rfl := Option.some.inj h; rfl
  · cases h
noncomputable def ref14_Time_ck (D : Int → Option ref14_Time_R) : CK := fun avs bs => match avs, bs with
  | [.one false [.d (DV.int IntKind.i64 a0)]], [] => CallK.via (D (a0)) ref14_Time_enc
  | _, _ => CallK.of none
theorem ref14_Time_ck_ok {D : Int → Option ref14_Time_R} (h : ∀ (a0 : Int), ∀ r, D (a0) = some r → CallOK Go.Proofs.Try.prog 12 [.one false [.d (DV.int IntKind.i64 a0)]] [] (ref14_Time_enc r)) : CK.OK Go.Proofs.Try.prog 12 (ref14_Time_ck D) := by
  intro avs bs r hr
  unfold ref14_Time_ck at hr
  split at hr
  · obtain ⟨x, hx, rfl⟩ := via_some hr
    exact h _ x hx
  · exact (none_some hr).elim
noncomputable def ref14_Time_T (G_ref14_Is : Int → Option ref14_Is_R) (G_ref14_Date : Int → Option ref14_Date_R) (G_ref14_two : Int → Option ref14_two_R) : Tab := tabG Go.Proofs.Try.prog hints [(9, ref14_Is_ck G_ref14_Is), (17, ref14_Date_ck G_ref14_Date), (20, ref14_two_ck G_ref14_two)] noIter noMu noPrep
theorem ref14_Time_T_ok (G_ref14_Is : Int → Option ref14_Is_R) (G_ref14_Date : Int → Option ref14_Date_R) (G_ref14_two : Int → Option ref14_two_R) (H_ref14_Is : CK.OK Go.Proofs.Try.prog 9 (ref14_Is_ck G_ref14_Is)) (H_ref14_Date : CK.OK Go.Proofs.Try.prog 17 (ref14_Date_ck G_ref14_Date)) (H_ref14_two : CK.OK Go.Proofs.Try.prog 20 (ref14_two_ck G_ref14_two)) : TabOK Go.Proofs.Try.prog (ref14_Time_T G_ref14_Is G_ref14_Date G_ref14_two) := by
  have hl : ∀ p ∈ ([(9, ref14_Is_ck G_ref14_Is), (17, ref14_Date_ck G_ref14_Date), (20, ref14_two_ck G_ref14_two)] : Cks), p.2.OK Go.Proofs.Try.prog p.1 := fun p hp => by
    simp only [List.mem_cons, List.not_mem_nil, or_false] at hp
    rcases hp with rfl | rfl | rfl <;> assumption
  exact tabG_ok mixed named hl noIter_ok
theorem ref14_Time_nodup (G_ref14_Is : Int → Option ref14_Is_R) (G_ref14_Date : Int → Option ref14_Date_R) (G_ref14_two : Int → Option ref14_two_R) : nodupB ((blocksOf (bodyOf (ref14_Time_T G_ref14_Is G_ref14_Date G_ref14_two) 12)).map (·.1)) = true := by kernel_rfl
def ref14_Time_hk0 (M : Nat) (G_ref14_Is : Int → Option ref14_Is_R) (G_ref14_Date : Int → Option ref14_Date_R) (G_ref14_two : Int → Option ref14_two_R) : Hks := []
theorem ref14_Time_hk0_ok (M : Nat) (G_ref14_Is : Int → Option ref14_Is_R) (G_ref14_Date : Int → Option ref14_Date_R) (G_ref14_two : Int → Option ref14_two_R) (_ : TabOK Go.Proofs.Try.prog (ref14_Time_T G_ref14_Is G_ref14_Date G_ref14_two)) : HksOK Go.Proofs.Try.prog (ctxOf (ref14_Time_T G_ref14_Is G_ref14_Date G_ref14_two) (evalK (ref14_Time_T G_ref14_Is G_ref14_Date G_ref14_two) 20) 12) (bodyOf (ref14_Time_T G_ref14_Is G_ref14_Date G_ref14_two) 12) (ref14_Time_hk0 M G_ref14_Is G_ref14_Date G_ref14_two) := .nil
noncomputable def ref14_Time_B (M : Nat) (G_ref14_Is : Int → Option ref14_Is_R) (G_ref14_Date : Int → Option ref14_Date_R) (G_ref14_two : Int → Option ref14_two_R) (a0 : Int) : Option Res :=
  bindG (G_ref14_Is (a0)) (fun r1 => bif !r1 then (some (AV.one true [CV.d (DV.int IntKind.u8 0), CV.own 0 (DV.ints IntKind.u8 []), CV.own 1 (DV.sl 3 [])], [])) else (bindG (G_ref14_Date (a0)) (fun r2 => bif leI 2050 r2.fst then (bindG (G_ref14_two (IntKind.wrap IntKind.i64 (Int.tdiv r2.fst 100))) (fun r3 => bindG (G_ref14_two (r2.fst)) (fun r4 => bif leN ((DV.count (DV.ints IntKind.u8 r3) + DV.count (DV.ints IntKind.u8 r4)) * 1) 140737488355328 then (bindG (G_ref14_two (r2.snd.fst)) (fun r5 => bif leN ((DV.count (DV.ints IntKind.u8 (r3 ++ r4)) + DV.count (DV.ints IntKind.u8 r5)) * 1) 140737488355328 then (bindG (G_ref14_two (r2.snd.snd.fst)) (fun r6 => bif leN ((DV.count (DV.ints IntKind.u8 (r3 ++ r4 ++ r5)) + DV.count (DV.ints IntKind.u8 r6)) * 1) 140737488355328 then (bindG (G_ref14_two (r2.snd.snd.snd.fst)) (fun r7 => bif leN ((DV.count (DV.ints IntKind.u8 (r3 ++ r4 ++ r5 ++ r6)) + DV.count (DV.ints IntKind.u8 r7)) * 1) 140737488355328 then (bindG (G_ref14_two (r2.snd.snd.snd.snd.fst)) (fun r8 => bif leN ((DV.count (DV.ints IntKind.u8 (r3 ++ r4 ++ r5 ++ r6 ++ r7)) + DV.count (DV.ints IntKind.u8 r8)) * 1) 140737488355328 then (bindG (G_ref14_two (r2.snd.snd.snd.snd.snd)) (fun r9 => bif leN ((DV.count (DV.ints IntKind.u8 (r3 ++ r4 ++ r5 ++ r6 ++ r7 ++ r8)) + DV.count (DV.ints IntKind.u8 r9)) * 1) 140737488355328 then (bif leN ((DV.count (DV.ints IntKind.u8 (r3 ++ r4 ++ r5 ++ r6 ++ r7 ++ r8 ++ r9)) + 1) * 1) 140737488355328 then (some (AV.one true [CV.d (DV.int IntKind.u8 24), CV.own 0 (DV.ints IntKind.u8 (r3 ++ r4 ++ r5 ++ r6 ++ r7 ++ r8 ++ r9 ++ [90])), CV.own 1 (DV.sl 3 [])], [])) else (none)) else (none))) else (none))) else (none))) else (none))) else (none))) else (none)))) else (bindG (G_ref14_two (r2.fst)) (fun r10 => bif leN ((0 + DV.count (DV.ints IntKind.u8 r10)) * 1) 140737488355328 then (bindG (G_ref14_two (r2.snd.fst)) (fun r11 => bif leN ((DV.count (DV.ints IntKind.u8 ([] ++ r10)) + DV.count (DV.ints IntKind.u8 r11)) * 1) 140737488355328 then (bindG (G_ref14_two (r2.snd.snd.fst)) (fun r12 => bif leN ((DV.count (DV.ints IntKind.u8 ([] ++ r10 ++ r11)) + DV.count (DV.ints IntKind.u8 r12)) * 1) 140737488355328 then (bindG (G_ref14_two (r2.snd.snd.snd.fst)) (fun r13 => bif leN ((DV.count (DV.ints IntKind.u8 ([] ++ r10 ++ r11 ++ r12)) + DV.count (DV.ints IntKind.u8 r13)) * 1) 140737488355328 then (bindG (G_ref14_two (r2.snd.snd.snd.snd.fst)) (fun r14 => bif leN ((DV.count (DV.ints IntKind.u8 ([] ++ r10 ++ r11 ++ r12 ++ r13)) + DV.count (DV.ints IntKind.u8 r14)) * 1) 140737488355328 then (bindG (G_ref14_two (r2.snd.snd.snd.snd.snd)) (fun r15 => bif leN ((DV.count (DV.ints IntKind.u8 ([] ++ r10 ++ r11 ++ r12 ++ r13 ++ r14)) + DV.count (DV.ints IntKind.u8 r15)) * 1) 140737488355328 then (bif leN ((DV.count (DV.ints IntKind.u8 ([] ++ r10 ++ r11 ++ r12 ++ r13 ++ r14 ++ r15)) + 1) * 1) 140737488355328 then (some (AV.one true [CV.d (DV.int IntKind.u8 23), CV.own 0 (DV.ints IntKind.u8 ([] ++ r10 ++ r11 ++ r12 ++ r13 ++ r14 ++ r15 ++ [90])), CV.own 1 (DV.sl 3 [])], [])) else (none)) else (none))) else (none))) else (none))) else (none))) else (none))) else (none))))))
theorem ref14_Time_B_eq (M : Nat) (G_ref14_Is : Int → Option ref14_Is_R) (G_ref14_Date : Int → Option ref14_Date_R) (G_ref14_two : Int → Option ref14_two_R) (a0 : Int) : evalBH (ref14_Time_T G_ref14_Is G_ref14_Date G_ref14_two) (findHk (ref14_Time_hk0 M G_ref14_Is G_ref14_Date G_ref14_two)) (evalK (ref14_Time_T G_ref14_Is G_ref14_Date G_ref14_two) 20) 12 [.one false [.d (DV.int IntKind.i64 a0)]] [] = ref14_Time_B M G_ref14_Is G_ref14_Date G_ref14_two a0 := by kernel_rfl
noncomputable def ref14_Time_D (M : Nat) (G_ref14_Is : Int → Option ref14_Is_R) (G_ref14_Date : Int → Option ref14_Date_R) (G_ref14_two : Int → Option ref14_two_R) (a0 : Int) : Option ref14_Time_R := (ref14_Time_B M G_ref14_Is G_ref14_Date G_ref14_two a0).bind ref14_Time_dec
theorem ref14_Time_D_ok (M : Nat) (G_ref14_Is : Int → Option ref14_Is_R) (G_ref14_Date : Int → Option ref14_Date_R) (G_ref14_two : Int → Option ref14_two_R) (H_ref14_Is : CK.OK Go.Proofs.Try.prog 9 (ref14_Is_ck G_ref14_Is)) (H_ref14_Date : CK.OK Go.Proofs.Try.prog 17 (ref14_Date_ck G_ref14_Date)) (H_ref14_two : CK.OK Go.Proofs.Try.prog 20 (ref14_two_ck G_ref14_two)) (a0 : Int) (r : ref14_Time_R) (h : ref14_Time_D M G_ref14_Is G_ref14_Date G_ref14_two a0 = some r) : CallOK Go.Proofs.Try.prog 12 [.one false [.d (DV.int IntKind.i64 a0)]] [] (ref14_Time_enc r) := by
  obtain ⟨res, h1, h2⟩ := Option.bind_eq_some_iff.1 h
  have hT := ref14_Time_T_ok G_ref14_Is G_ref14_Date G_ref14_two H_ref14_Is H_ref14_Date H_ref14_two
  have this := evalG_ok hT (ref14_Time_hk0_ok M G_ref14_Is G_ref14_Date G_ref14_two hT) (ref14_Time_nodup G_ref14_Is G_ref14_Date G_ref14_two) (fun _ _ _ => rfl) ((ref14_Time_B_eq M G_ref14_Is G_ref14_Date G_ref14_two a0).trans h1)
  rwa [ref14_Time_dec_inv h2] at this
noncomputable def ref14_Time_F (M N : Nat) (a0 : Int) : Option ref14_Time_R := ref14_Time_D M (ref14_Is_F M N) (ref14_Date_F M N) (ref14_two_F M N) a0
theorem ref14_Time_F_ok (M N : Nat) : CK.OK Go.Proofs.Try.prog 12 (ref14_Time_ck (ref14_Time_F M N)) := ref14_Time_ck_ok fun a0 r h => ref14_Time_D_ok M _ _ _ (ref14_Is_F_ok M N) (ref14_Date_F_ok M N) (ref14_two_F_ok M N) a0 r h
abbrev ref14_number_R : Type := Int
def ref14_number_enc (r : ref14_number_R) : Res := (.one false [.d (DV.int IntKind.i64 r)], [])
def ref14_number_dec (r : Res) : Option ref14_number_R := match r with
  | (.one false [.d (DV.int IntKind.i64 x0)], []) => some x0
  | _ => none
theorem ref14_number_dec_inv {r : Res} {x : ref14_number_R} (h : ref14_number_dec r = some x) : r = ref14_number_enc x := by
  unfold ref14_number_dec at h
  split at h
  · obtain rfl := Option.some.inj h; rfl
  · cases h
noncomputable def ref14_number_ck (D : List Int → Option ref14_number_R) : CK := fun avs bs => match avs, bs with
  | [.one false [.d (DV.ints IntKind.u8 a0)]], [] => CallK.via (D (a0)) ref14_number_enc
  | _, _ => CallK.of none
theorem ref14_number_ck_ok {D : List Int → Option ref14_number_R} (h : ∀ (a0 : List Int), ∀ r, D (a0) = some r → CallOK Go.Proofs.Try.prog 23 [.one false [.d (DV.ints IntKind.u8 a0)]] [] (ref14_number_enc r)) : CK.OK Go.Proofs.Try.prog 23 (ref14_number_ck D) := by
  intro avs bs r hr
  unfold ref14_number_ck at hr
  split at hr
  · obtain ⟨x, hx, rfl⟩ := via_some hr
    exact h _ x hx
  · exact (none_some hr).elim
noncomputable def ref14_number_T : Tab := tabG Go.Proofs.Try.prog hints [] noIter noMu noPrep
theorem ref14_number_T_ok : TabOK Go.Proofs.Try.prog (ref14_number_T) := by
  have hl : ∀ p ∈ ([] : Cks), p.2.OK Go.Proofs.Try.prog p.1 := fun _ h => by cases h
  exact tabG_ok mixed named hl noIter_ok
theorem ref14_number_nodup : nodupB ((blocksOf (bodyOf (ref14_number_T) 23)).map (·.1)) = true := by kernel_rfl
def ref14_number_hk0 (M : Nat) : Hks := []
theorem ref14_number_hk0_ok (M : Nat) (_ : TabOK Go.Proofs.Try.prog (ref14_number_T)) : HksOK Go.Proofs.Try.prog (ctxOf (ref14_number_T) (evalK (ref14_number_T) 20) 23) (bodyOf (ref14_number_T) 23) (ref14_number_hk0 M) := .nil
noncomputable def ref14_number_s0 {R : Type} (M : Nat) (k0 : Int → Option R) (k1 : Int → Option R) (rc : List Int → Int → Int → Option R) (v1 : List Int) (v2 : Int) (v3 : Int) : Option R :=
  bif ltI v3 ↑(List.length v1) then (nth (v1) (v3) (fun x4 => bif ltI x4 48 then (k0 (-1)) else (nth (v1) (v3) (fun x5 => bif ltI 57 x5 then (k0 (-1)) else (nth (v1) (v3) (fun x6 => rc (v1) (IntKind.wrap IntKind.i64 (IntKind.wrap IntKind.i64 (IntKind.wrap IntKind.i64 (v2 * 10) + IntKind.wrap IntKind.i64 x6) - 48)) (IntKind.wrap IntKind.i64 (v3 + 1)))))))) else (k1 (v2))
noncomputable def ref14_number_l0 {R : Type} (M : Nat) (k0 : Int → Option R) (k1 : Int → Option R) : Nat → List Int → Int → Int → Option R
  | 0, _, _, _ => none
  | n + 1, v1, v2, v3 => ref14_number_s0 M k0 k1 (ref14_number_l0 M k0 k1 n) v1 v2 v3
theorem ref14_number_s0_eq {R : Type} (M : Nat) (n : Nat) (v1 : List Int) (v2 : Int) (v3 : Int) (K : AX → St → Option R) :
  rG (ref14_number_T) 23 (ref14_number_hk0 M) 0 ([0, 3, 4], [50000, 1000000, 1000001, 1000002]) (houtOf ([3], [50000, 1000000, 1000001, 1000002]) [] ([2], [50000, 1000000, 1000001, 1000002])) (n + 1) (mkS [(0, AV.one false [CV.d (DV.ints IntKind.u8 v1)]), (3, AV.one false [CV.d (DV.int IntKind.i64 v2)]), (4, AV.one false [CV.d (DV.int IntKind.i64 v3)])] []) K =
  ref14_number_s0 M ((fun w7 => K .ret (mkS [(2, AV.one false [CV.d (DV.int IntKind.i64 w7)])] []))) ((fun w8 => K .norm (mkS [(3, AV.one false [CV.d (DV.int IntKind.i64 w8)])] []))) (fun v1 v2 v3 => rG (ref14_number_T) 23 (ref14_number_hk0 M) 0 ([0, 3, 4], [50000, 1000000, 1000001, 1000002]) (houtOf ([3], [50000, 1000000, 1000001, 1000002]) [] ([2], [50000, 1000000, 1000001, 1000002])) n (mkS [(0, AV.one false [CV.d (DV.ints IntKind.u8 v1)]), (3, AV.one false [CV.d (DV.int IntKind.i64 v2)]), (4, AV.one false [CV.d (DV.int IntKind.i64 v3)])] []) K) v1 v2 v3 := by kernel_rfl
theorem ref14_number_l0_eq {R : Type} (M : Nat) (K : AX → St → Option R) : ∀ (n : Nat) (v1 : List Int) (v2 : Int) (v3 : Int),
  rG (ref14_number_T) 23 (ref14_number_hk0 M) 0 ([0, 3, 4], [50000, 1000000, 1000001, 1000002]) (houtOf ([3], [50000, 1000000, 1000001, 1000002]) [] ([2], [50000, 1000000, 1000001, 1000002])) n (mkS [(0, AV.one false [CV.d (DV.ints IntKind.u8 v1)]), (3, AV.one false [CV.d (DV.int IntKind.i64 v2)]), (4, AV.one false [CV.d (DV.int IntKind.i64 v3)])] []) K = ref14_number_l0 M ((fun w7 => K .ret (mkS [(2, AV.one false [CV.d (DV.int IntKind.i64 w7)])] []))) ((fun w8 => K .norm (mkS [(3, AV.one false [CV.d (DV.int IntKind.i64 w8)])] []))) n v1 v2 v3
  | 0, _, _, _ => rfl
  | n + 1, v1, v2, v3 => by
    have h : (fun v1 v2 v3 => rG (ref14_number_T) 23 (ref14_number_hk0 M) 0 ([0, 3, 4], [50000, 1000000, 1000001, 1000002]) (houtOf ([3], [50000, 1000000, 1000001, 1000002]) [] ([2], [50000, 1000000, 1000001, 1000002])) n (mkS [(0, AV.one false [CV.d (DV.ints IntKind.u8 v1)]), (3, AV.one false [CV.d (DV.int IntKind.i64 v2)]), (4, AV.one false [CV.d (DV.int IntKind.i64 v3)])] []) K) = ref14_number_l0 M ((fun w7 => K .ret (mkS [(2, AV.one false [CV.d (DV.int IntKind.i64 w7)])] []))) ((fun w8 => K .norm (mkS [(3, AV.one false [CV.d (DV.int IntKind.i64 w8)])] []))) n := by funext v1 v2 v3; exact ref14_number_l0_eq M K n v1 v2 v3
    rw [ref14_number_s0_eq, h]; rfl
noncomputable def ref14_number_l0_hook (M : Nat) : HookS := ⟨fun s K => g1 (s.tm 0) fun c1 => gD c1 fun c2 => asR IntKind.u8 c2 fun v1 => g1 (s.tm 3) fun c3 => gD c3 fun c4 => asI IntKind.i64 c4 fun v2 => g1 (s.tm 4) fun c5 => gD c5 fun c6 => asI IntKind.i64 c6 fun v3 =>  ref14_number_l0 M ((fun w7 => K .ret (mkS [(2, AV.one false [CV.d (DV.int IntKind.i64 w7)])] []))) ((fun w8 => K .norm (mkS [(3, AV.one false [CV.d (DV.int IntKind.i64 w8)])] []))) M v1 v2 v3⟩
noncomputable def ref14_number_hk1 (M : Nat) : Hks := (0, ref14_number_l0_hook M) :: ref14_number_hk0 M
theorem ref14_number_hk1_ok (M : Nat) (hT : TabOK Go.Proofs.Try.prog (ref14_number_T)) : HksOK Go.Proofs.Try.prog (ctxOf (ref14_number_T) (evalK (ref14_number_T) 20) 23) (bodyOf (ref14_number_T) 23) (ref14_number_hk1 M) := by
  refine .cons (loop_hook (ctx_ok hT 23).1 (ctx_ok hT 23).2 mixed (l := ref14_number_hk0 M) (ref14_number_hk0_ok M hT) (ref14_number_nodup) (i := 0) (hin := ([0, 3, 4], [50000, 1000000, 1000001, 1000002])) (hout := (houtOf ([3], [50000, 1000000, 1000001, 1000002]) [] ([2], [50000, 1000000, 1000001, 1000002]))) (fuel := (ref14_number_T).fuel) (hint := (ref14_number_T).hint 23) (by kernel_rfl) fun s K r q0 => ?_) (ref14_number_hk0_ok M hT)
  obtain ⟨c1, h0, q1⟩ := g1_some q0
  obtain ⟨c2, rfl, q2⟩ := gD_some q1
  obtain ⟨v1, rfl, q3⟩ := asR_some q2
  obtain ⟨c3, h3, q4⟩ := g1_some q3
  obtain ⟨c4, rfl, q5⟩ := gD_some q4
  obtain ⟨v2, rfl, q6⟩ := asI_some q5
  obtain ⟨c5, h4, q7⟩ := g1_some q6
  obtain ⟨c6, rfl, q8⟩ := gD_some q7
  obtain ⟨v3, rfl, q9⟩ := asI_some q8
  have hs := q9
  exact ⟨M, mkS [(0, AV.one false [CV.d (DV.ints IntKind.u8 v1)]), (3, AV.one false [CV.d (DV.int IntKind.i64 v2)]), (4, AV.one false [CV.d (DV.int IntKind.i64 v3)])] [], mkS_weak _ _ (by simp [*]) (by simp [*]), (ref14_number_l0_eq M K M v1 v2 v3).trans hs⟩
noncomputable def ref14_number_B (M : Nat) (a0 : List Int) : Option Res :=
  ref14_number_l0 (M) ((fun w9 => some (AV.one false [CV.d (DV.int IntKind.i64 w9)], []))) ((fun w10 => some (AV.one false [CV.d (DV.int IntKind.i64 w10)], []))) (M) (a0) (0) (0)
theorem ref14_number_B_eq (M : Nat) (a0 : List Int) : evalBH (ref14_number_T) (findHk (ref14_number_hk1 M)) (evalK (ref14_number_T) 20) 23 [.one false [.d (DV.ints IntKind.u8 a0)]] [] = ref14_number_B M a0 := by kernel_rfl
noncomputable def ref14_number_D (M : Nat) (a0 : List Int) : Option ref14_number_R := (ref14_number_B M a0).bind ref14_number_dec
theorem ref14_number_D_ok (M : Nat) (a0 : List Int) (r : ref14_number_R) (h : ref14_number_D M a0 = some r) : CallOK Go.Proofs.Try.prog 23 [.one false [.d (DV.ints IntKind.u8 a0)]] [] (ref14_number_enc r) := by
  obtain ⟨res, h1, h2⟩ := Option.bind_eq_some_iff.1 h
  have hT := ref14_number_T_ok
  have this := evalG_ok hT (ref14_number_hk1_ok M hT) (ref14_number_nodup) (fun _ _ _ => rfl) ((ref14_number_B_eq M a0).trans h1)
  rwa [ref14_number_dec_inv h2] at this
noncomputable def ref14_number_F (M N : Nat) (a0 : List Int) : Option ref14_number_R := ref14_number_D M a0
theorem ref14_number_F_ok (M N : Nat) : CK.OK Go.Proofs.Try.prog 23 (ref14_number_ck (ref14_number_F M N)) := ref14_number_ck_ok fun a0 r h => ref14_number_D_ok M a0 r h
end Go.Proofs.Ythmdefgepnkgiaa.Eng
