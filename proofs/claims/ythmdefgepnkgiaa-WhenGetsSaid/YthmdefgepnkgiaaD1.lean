/- Functions of the program, told by functions (printed by wip/g/mkdec.py). Conditions: none. -/
import Derived.Test.YthmdefgepnkgiaaGK
namespace Go.Proofs.Ythmdefgepnkgiaa.Eng
open Go
set_option maxRecDepth 100000
set_option linter.unusedVariables false
set_option linter.unusedSimpArgs false
abbrev when_isLeap_R : Type := Bool
def when_isLeap_enc (r : when_isLeap_R) : Res := (.one false [.d (DV.bool r)], [])
def when_isLeap_dec (r : Res) : Option when_isLeap_R := match r with
  | (.one false [.d (DV.bool x0)], []) => some x0
  | _ => none
theorem when_isLeap_dec_inv {r : Res} {x : when_isLeap_R} (h : when_isLeap_dec r = some x) : r = when_isLeap_enc x := by
  unfold when_isLeap_dec at h
  split at h
  · obtain rfl := Option.some.inj h; rfl
  · cases h
noncomputable def when_isLeap_ck (D : Int → Option when_isLeap_R) : CK := fun avs bs => match avs, bs with
  | [.one false [.d (DV.int IntKind.i64 a0)]], [] => CallK.via (D (a0)) when_isLeap_enc
  | _, _ => CallK.of none
theorem when_isLeap_ck_ok {D : Int → Option when_isLeap_R} (h : ∀ (a0 : Int), ∀ r, D (a0) = some r → CallOK Go.Proofs.Try.prog 29 [.one false [.d (DV.int IntKind.i64 a0)]] [] (when_isLeap_enc r)) : CK.OK Go.Proofs.Try.prog 29 (when_isLeap_ck D) := by
  intro avs bs r hr
  unfold when_isLeap_ck at hr
  split at hr
  · obtain ⟨x, hx, rfl⟩ := via_some hr
    exact h _ x hx
  · exact (none_some hr).elim
noncomputable def when_isLeap_T : Tab := tabG Go.Proofs.Try.prog hints [] noIter noMu noPrep
theorem when_isLeap_T_ok : TabOK Go.Proofs.Try.prog (when_isLeap_T) := by
  have hl : ∀ p ∈ ([] : Cks), p.2.OK Go.Proofs.Try.prog p.1 := fun _ h => by cases h
  exact tabG_ok mixed named hl noIter_ok
theorem when_isLeap_nodup : nodupB ((blocksOf (bodyOf (when_isLeap_T) 29)).map (·.1)) = true := by kernel_rfl
def when_isLeap_hk0 (M : Nat) : Hks := []
theorem when_isLeap_hk0_ok (M : Nat) (_ : TabOK Go.Proofs.Try.prog (when_isLeap_T)) : HksOK Go.Proofs.Try.prog (ctxOf (when_isLeap_T) (evalK (when_isLeap_T) 20) 29) (bodyOf (when_isLeap_T) 29) (when_isLeap_hk0 M) := .nil
noncomputable def when_isLeap_B (M : Nat) (a0 : Int) : Option Res :=
  bif eqI (Int.tmod a0 4) 0 then (bif !eqI (Int.tmod a0 100) 0 then (some (AV.one false [CV.d (DV.bool true)], [])) else (some (AV.one false [CV.d (DV.bool (eqI (Int.tmod a0 400) 0))], []))) else (some (AV.one false [CV.d (DV.bool false)], []))
theorem when_isLeap_B_eq (M : Nat) (a0 : Int) : evalBH (when_isLeap_T) (findHk (when_isLeap_hk0 M)) (evalK (when_isLeap_T) 20) 29 [.one false [.d (DV.int IntKind.i64 a0)]] [] = when_isLeap_B M a0 := by kernel_rfl
noncomputable def when_isLeap_D (M : Nat) (a0 : Int) : Option when_isLeap_R := (when_isLeap_B M a0).bind when_isLeap_dec
theorem when_isLeap_D_ok (M : Nat) (a0 : Int) (r : when_isLeap_R) (h : when_isLeap_D M a0 = some r) : CallOK Go.Proofs.Try.prog 29 [.one false [.d (DV.int IntKind.i64 a0)]] [] (when_isLeap_enc r) := by
  obtain ⟨res, h1, h2⟩ := Option.bind_eq_some_iff.1 h
  have hT := when_isLeap_T_ok
  have this := evalG_ok hT (when_isLeap_hk0_ok M hT) (when_isLeap_nodup) (fun _ _ _ => rfl) ((when_isLeap_B_eq M a0).trans h1)
  rwa [when_isLeap_dec_inv h2] at this
noncomputable def when_isLeap_F (M N : Nat) (a0 : Int) : Option when_isLeap_R := when_isLeap_D M a0
theorem when_isLeap_F_ok (M N : Nat) : CK.OK Go.Proofs.Try.prog 29 (when_isLeap_ck (when_isLeap_F M N)) := when_isLeap_ck_ok fun a0 r h => when_isLeap_D_ok M a0 r h
abbrev when_ahead_R : Type := Int
def when_ahead_enc (r : when_ahead_R) : Res := (.one false [.d (DV.int IntKind.i64 r)], [])
def when_ahead_dec (r : Res) : Option when_ahead_R := match r with
  | (.one false [.d (DV.int IntKind.i64 x0)], []) => some x0
  | _ => none
theorem when_ahead_dec_inv {r : Res} {x : when_ahead_R} (h : when_ahead_dec r = some x) : r = when_ahead_enc x := by
  unfold when_ahead_dec at h
  split at h
  · obtain rfl := Option.some.inj h; rfl
  · cases h
noncomputable def when_ahead_ck (D : Int → Option when_ahead_R) : CK := fun avs bs => match avs, bs with
  | [.one false [.d (DV.int IntKind.i64 a0)]], [] => CallK.via (D (a0)) when_ahead_enc
  | _, _ => CallK.of none
theorem when_ahead_ck_ok {D : Int → Option when_ahead_R} (h : ∀ (a0 : Int), ∀ r, D (a0) = some r → CallOK Go.Proofs.Try.prog 26 [.one false [.d (DV.int IntKind.i64 a0)]] [] (when_ahead_enc r)) : CK.OK Go.Proofs.Try.prog 26 (when_ahead_ck D) := by
  intro avs bs r hr
  unfold when_ahead_ck at hr
  split at hr
  · obtain ⟨x, hx, rfl⟩ := via_some hr
    exact h _ x hx
  · exact (none_some hr).elim
noncomputable def when_ahead_T : Tab := tabG Go.Proofs.Try.prog hints [] noIter noMu noPrep
theorem when_ahead_T_ok : TabOK Go.Proofs.Try.prog (when_ahead_T) := by
  have hl : ∀ p ∈ ([] : Cks), p.2.OK Go.Proofs.Try.prog p.1 := fun _ h => by cases h
  exact tabG_ok mixed named hl noIter_ok
theorem when_ahead_nodup : nodupB ((blocksOf (bodyOf (when_ahead_T) 26)).map (·.1)) = true := by kernel_rfl
def when_ahead_hk0 (M : Nat) : Hks := []
theorem when_ahead_hk0_ok (M : Nat) (_ : TabOK Go.Proofs.Try.prog (when_ahead_T)) : HksOK Go.Proofs.Try.prog (ctxOf (when_ahead_T) (evalK (when_ahead_T) 20) 26) (bodyOf (when_ahead_T) 26) (when_ahead_hk0 M) := .nil
noncomputable def when_ahead_B (M : Nat) (a0 : Int) : Option Res :=
  some (AV.one false [CV.d (DV.int IntKind.i64 (IntKind.wrap IntKind.i64 (IntKind.wrap IntKind.i64 (IntKind.wrap IntKind.i64 (IntKind.wrap IntKind.i64 (IntKind.wrap IntKind.i64 (a0 - 1) * 365) + IntKind.wrap IntKind.i64 (Int.tdiv (IntKind.wrap IntKind.i64 (a0 - 1)) 4)) - IntKind.wrap IntKind.i64 (Int.tdiv (IntKind.wrap IntKind.i64 (a0 - 1)) 100)) + IntKind.wrap IntKind.i64 (Int.tdiv (IntKind.wrap IntKind.i64 (a0 - 1)) 400))))], [])
theorem when_ahead_B_eq (M : Nat) (a0 : Int) : evalBH (when_ahead_T) (findHk (when_ahead_hk0 M)) (evalK (when_ahead_T) 20) 26 [.one false [.d (DV.int IntKind.i64 a0)]] [] = when_ahead_B M a0 := by kernel_rfl
noncomputable def when_ahead_D (M : Nat) (a0 : Int) : Option when_ahead_R := (when_ahead_B M a0).bind when_ahead_dec
theorem when_ahead_D_ok (M : Nat) (a0 : Int) (r : when_ahead_R) (h : when_ahead_D M a0 = some r) : CallOK Go.Proofs.Try.prog 26 [.one false [.d (DV.int IntKind.i64 a0)]] [] (when_ahead_enc r) := by
  obtain ⟨res, h1, h2⟩ := Option.bind_eq_some_iff.1 h
  have hT := when_ahead_T_ok
  have this := evalG_ok hT (when_ahead_hk0_ok M hT) (when_ahead_nodup) (fun _ _ _ => rfl) ((when_ahead_B_eq M a0).trans h1)
  rwa [when_ahead_dec_inv h2] at this
noncomputable def when_ahead_F (M N : Nat) (a0 : Int) : Option when_ahead_R := when_ahead_D M a0
theorem when_ahead_F_ok (M N : Nat) : CK.OK Go.Proofs.Try.prog 26 (when_ahead_ck (when_ahead_F M N)) := when_ahead_ck_ok fun a0 r h => when_ahead_D_ok M a0 r h
abbrev when_days_R : Type := Int
def when_days_enc (r : when_days_R) : Res := (.one false [.d (DV.int IntKind.i64 r)], [])
def when_days_dec (r : Res) : Option when_days_R := match r with
  | (.one false [.d (DV.int IntKind.i64 x0)], []) => some x0
  | _ => none
theorem when_days_dec_inv {r : Res} {x : when_days_R} (h : when_days_dec r = some x) : r = when_days_enc x := by
  unfold when_days_dec at h
  split at h
  · obtain rfl := Option.some.inj h; rfl
  · cases h
noncomputable def when_days_ck (D : Int → Int → Option when_days_R) : CK := fun avs bs => match avs, bs with
  | [.one false [.d (DV.int IntKind.i64 a0)], .one false [.d (DV.int IntKind.i64 a1)]], [] => CallK.via (D (a0) (a1)) when_days_enc
  | _, _ => CallK.of none
theorem when_days_ck_ok {D : Int → Int → Option when_days_R} (h : ∀ (a0 : Int) (a1 : Int), ∀ r, D (a0) (a1) = some r → CallOK Go.Proofs.Try.prog 27 [.one false [.d (DV.int IntKind.i64 a0)], .one false [.d (DV.int IntKind.i64 a1)]] [] (when_days_enc r)) : CK.OK Go.Proofs.Try.prog 27 (when_days_ck D) := by
  intro avs bs r hr
  unfold when_days_ck at hr
  split at hr
  · obtain ⟨x, hx, rfl⟩ := via_some hr
    exact h _ _ x hx
  · exact (none_some hr).elim
noncomputable def when_days_T (G_when_isLeap : Int → Option when_isLeap_R) : Tab := tabG Go.Proofs.Try.prog hints [(29, when_isLeap_ck G_when_isLeap)] noIter noMu noPrep
theorem when_days_T_ok (G_when_isLeap : Int → Option when_isLeap_R) (H_when_isLeap : CK.OK Go.Proofs.Try.prog 29 (when_isLeap_ck G_when_isLeap)) : TabOK Go.Proofs.Try.prog (when_days_T G_when_isLeap) := by
  have hl : ∀ p ∈ ([(29, when_isLeap_ck G_when_isLeap)] : Cks), p.2.OK Go.Proofs.Try.prog p.1 := fun p hp => by
    simp only [List.mem_cons, List.not_mem_nil, or_false] at hp
    rcases hp with rfl <;> assumption
  exact tabG_ok mixed named hl noIter_ok
theorem when_days_nodup (G_when_isLeap : Int → Option when_isLeap_R) : nodupB ((blocksOf (bodyOf (when_days_T G_when_isLeap) 27)).map (·.1)) = true := by kernel_rfl
def when_days_hk0 (M : Nat) (G_when_isLeap : Int → Option when_isLeap_R) : Hks := []
theorem when_days_hk0_ok (M : Nat) (G_when_isLeap : Int → Option when_isLeap_R) (_ : TabOK Go.Proofs.Try.prog (when_days_T G_when_isLeap)) : HksOK Go.Proofs.Try.prog (ctxOf (when_days_T G_when_isLeap) (evalK (when_days_T G_when_isLeap) 20) 27) (bodyOf (when_days_T G_when_isLeap) 27) (when_days_hk0 M G_when_isLeap) := .nil
noncomputable def when_days_B (M : Nat) (G_when_isLeap : Int → Option when_isLeap_R) (a0 : Int) (a1 : Int) : Option Res :=
  bif eqI a1 2 then (bindG (G_when_isLeap (a0)) (fun r1 => bif r1 then (some (AV.one false [CV.d (DV.int IntKind.i64 29)], [])) else (some (AV.one false [CV.d (DV.int IntKind.i64 28)], [])))) else (bif eqI a1 4 then (some (AV.one false [CV.d (DV.int IntKind.i64 30)], [])) else (bif eqI a1 6 then (some (AV.one false [CV.d (DV.int IntKind.i64 30)], [])) else (bif eqI a1 9 then (some (AV.one false [CV.d (DV.int IntKind.i64 30)], [])) else (bif eqI a1 11 then (some (AV.one false [CV.d (DV.int IntKind.i64 30)], [])) else (some (AV.one false [CV.d (DV.int IntKind.i64 31)], []))))))
theorem when_days_B_eq (M : Nat) (G_when_isLeap : Int → Option when_isLeap_R) (a0 : Int) (a1 : Int) : evalBH (when_days_T G_when_isLeap) (findHk (when_days_hk0 M G_when_isLeap)) (evalK (when_days_T G_when_isLeap) 20) 27 [.one false [.d (DV.int IntKind.i64 a0)], .one false [.d (DV.int IntKind.i64 a1)]] [] = when_days_B M G_when_isLeap a0 a1 := by kernel_rfl
noncomputable def when_days_D (M : Nat) (G_when_isLeap : Int → Option when_isLeap_R) (a0 : Int) (a1 : Int) : Option when_days_R := (when_days_B M G_when_isLeap a0 a1).bind when_days_dec
theorem when_days_D_ok (M : Nat) (G_when_isLeap : Int → Option when_isLeap_R) (H_when_isLeap : CK.OK Go.Proofs.Try.prog 29 (when_isLeap_ck G_when_isLeap)) (a0 : Int) (a1 : Int) (r : when_days_R) (h : when_days_D M G_when_isLeap a0 a1 = some r) : CallOK Go.Proofs.Try.prog 27 [.one false [.d (DV.int IntKind.i64 a0)], .one false [.d (DV.int IntKind.i64 a1)]] [] (when_days_enc r) := by
  obtain ⟨res, h1, h2⟩ := Option.bind_eq_some_iff.1 h
  have hT := when_days_T_ok G_when_isLeap H_when_isLeap
  have this := evalG_ok hT (when_days_hk0_ok M G_when_isLeap hT) (when_days_nodup G_when_isLeap) (fun _ _ _ => rfl) ((when_days_B_eq M G_when_isLeap a0 a1).trans h1)
  rwa [when_days_dec_inv h2] at this
noncomputable def when_days_F (M N : Nat) (a0 : Int) (a1 : Int) : Option when_days_R := when_days_D M (when_isLeap_F M N) a0 a1
theorem when_days_F_ok (M N : Nat) : CK.OK Go.Proofs.Try.prog 27 (when_days_ck (when_days_F M N)) := when_days_ck_ok fun a0 a1 r h => when_days_D_ok M _ (when_isLeap_F_ok M N) a0 a1 r h
abbrev when_two_R : Type := (List Int)
def when_two_enc (r : when_two_R) : Res := (.one false [.own 0 (DV.ints IntKind.u8 r)], [])
def when_two_dec (r : Res) : Option when_two_R := match r with
  | (.one false [.own 0 (DV.ints IntKind.u8 x0)], []) => some x0
  | _ => none
theorem when_two_dec_inv {r : Res} {x : when_two_R} (h : when_two_dec r = some x) : r = when_two_enc x := by
  unfold when_two_dec at h
  split at h
  · obtain rfl := Option.some.inj h; rfl
  · cases h
noncomputable def when_two_ck (D : Int → Option when_two_R) : CK := fun avs bs => match avs, bs with
  | [.one false [.d (DV.int IntKind.i64 a0)]], [] => CallK.via (D (a0)) when_two_enc
  | _, _ => CallK.of none
theorem when_two_ck_ok {D : Int → Option when_two_R} (h : ∀ (a0 : Int), ∀ r, D (a0) = some r → CallOK Go.Proofs.Try.prog 19 [.one false [.d (DV.int IntKind.i64 a0)]] [] (when_two_enc r)) : CK.OK Go.Proofs.Try.prog 19 (when_two_ck D) := by
  intro avs bs r hr
  unfold when_two_ck at hr
  split at hr
  · obtain ⟨x, hx, rfl⟩ := via_some hr
    exact h _ x hx
  · exact (none_some hr).elim
noncomputable def when_two_T : Tab := tabG Go.Proofs.Try.prog hints [] noIter noMu noPrep
theorem when_two_T_ok : TabOK Go.Proofs.Try.prog (when_two_T) := by
  have hl : ∀ p ∈ ([] : Cks), p.2.OK Go.Proofs.Try.prog p.1 := fun _ h => by cases h
  exact tabG_ok mixed named hl noIter_ok
theorem when_two_nodup : nodupB ((blocksOf (bodyOf (when_two_T) 19)).map (·.1)) = true := by kernel_rfl
def when_two_hk0 (M : Nat) : Hks := []
theorem when_two_hk0_ok (M : Nat) (_ : TabOK Go.Proofs.Try.prog (when_two_T)) : HksOK Go.Proofs.Try.prog (ctxOf (when_two_T) (evalK (when_two_T) 20) 19) (bodyOf (when_two_T) 19) (when_two_hk0 M) := .nil
noncomputable def when_two_B (M : Nat) (a0 : Int) : Option Res :=
  some (AV.one false [CV.own 0 (DV.ints IntKind.u8 [IntKind.wrap IntKind.u8 (IntKind.wrap IntKind.i64 (48 + Int.tmod (IntKind.wrap IntKind.i64 (Int.tdiv a0 10)) 10)), IntKind.wrap IntKind.u8 (IntKind.wrap IntKind.i64 (48 + Int.tmod a0 10))])], [])
theorem when_two_B_eq (M : Nat) (a0 : Int) : evalBH (when_two_T) (findHk (when_two_hk0 M)) (evalK (when_two_T) 20) 19 [.one false [.d (DV.int IntKind.i64 a0)]] [] = when_two_B M a0 := by kernel_rfl
noncomputable def when_two_D (M : Nat) (a0 : Int) : Option when_two_R := (when_two_B M a0).bind when_two_dec
theorem when_two_D_ok (M : Nat) (a0 : Int) (r : when_two_R) (h : when_two_D M a0 = some r) : CallOK Go.Proofs.Try.prog 19 [.one false [.d (DV.int IntKind.i64 a0)]] [] (when_two_enc r) := by
  obtain ⟨res, h1, h2⟩ := Option.bind_eq_some_iff.1 h
  have hT := when_two_T_ok
  have this := evalG_ok hT (when_two_hk0_ok M hT) (when_two_nodup) (fun _ _ _ => rfl) ((when_two_B_eq M a0).trans h1)
  rwa [when_two_dec_inv h2] at this
noncomputable def when_two_F (M N : Nat) (a0 : Int) : Option when_two_R := when_two_D M a0
theorem when_two_F_ok (M N : Nat) : CK.OK Go.Proofs.Try.prog 19 (when_two_ck (when_two_F M N)) := when_two_ck_ok fun a0 r h => when_two_D_ok M a0 r h
abbrev when_Is_R : Type := Bool
def when_Is_enc (r : when_Is_R) : Res := (.one false [.d (DV.bool r)], [])
def when_Is_dec (r : Res) : Option when_Is_R := match r with
  | (.one false [.d (DV.bool x0)], []) => some x0
  | _ => none
theorem when_Is_dec_inv {r : Res} {x : when_Is_R} (h : when_Is_dec r = some x) : r = when_Is_enc x := by
  unfold when_Is_dec at h
  split at h
  · obtain rfl := Option.some.inj h; rfl
  · cases h
noncomputable def when_Is_ck (D : Int → Option when_Is_R) : CK := fun avs bs => match avs, bs with
  | [.one false [.d (DV.int IntKind.i64 a0)]], [] => CallK.via (D (a0)) when_Is_enc
  | _, _ => CallK.of none
theorem when_Is_ck_ok {D : Int → Option when_Is_R} (h : ∀ (a0 : Int), ∀ r, D (a0) = some r → CallOK Go.Proofs.Try.prog 10 [.one false [.d (DV.int IntKind.i64 a0)]] [] (when_Is_enc r)) : CK.OK Go.Proofs.Try.prog 10 (when_Is_ck D) := by
  intro avs bs r hr
  unfold when_Is_ck at hr
  split at hr
  · obtain ⟨x, hx, rfl⟩ := via_some hr
    exact h _ x hx
  · exact (none_some hr).elim
noncomputable def when_Is_T : Tab := tabG Go.Proofs.Try.prog hints [] noIter noMu noPrep
theorem when_Is_T_ok : TabOK Go.Proofs.Try.prog (when_Is_T) := by
  have hl : ∀ p ∈ ([] : Cks), p.2.OK Go.Proofs.Try.prog p.1 := fun _ h => by cases h
  exact tabG_ok mixed named hl noIter_ok
theorem when_Is_nodup : nodupB ((blocksOf (bodyOf (when_Is_T) 10)).map (·.1)) = true := by kernel_rfl
def when_Is_hk0 (M : Nat) : Hks := []
theorem when_Is_hk0_ok (M : Nat) (_ : TabOK Go.Proofs.Try.prog (when_Is_T)) : HksOK Go.Proofs.Try.prog (ctxOf (when_Is_T) (evalK (when_Is_T) 20) 10) (bodyOf (when_Is_T) 10) (when_Is_hk0 M) := .nil
noncomputable def when_Is_B (M : Nat) (a0 : Int) : Option Res :=
  bif leI (-631152000) a0 then (some (AV.one false [CV.d (DV.bool (leI a0 253402300799))], [])) else (some (AV.one false [CV.d (DV.bool false)], []))
theorem when_Is_B_eq (M : Nat) (a0 : Int) : evalBH (when_Is_T) (findHk (when_Is_hk0 M)) (evalK (when_Is_T) 20) 10 [.one false [.d (DV.int IntKind.i64 a0)]] [] = when_Is_B M a0 := by kernel_rfl
noncomputable def when_Is_D (M : Nat) (a0 : Int) : Option when_Is_R := (when_Is_B M a0).bind when_Is_dec
theorem when_Is_D_ok (M : Nat) (a0 : Int) (r : when_Is_R) (h : when_Is_D M a0 = some r) : CallOK Go.Proofs.Try.prog 10 [.one false [.d (DV.int IntKind.i64 a0)]] [] (when_Is_enc r) := by
  obtain ⟨res, h1, h2⟩ := Option.bind_eq_some_iff.1 h
  have hT := when_Is_T_ok
  have this := evalG_ok hT (when_Is_hk0_ok M hT) (when_Is_nodup) (fun _ _ _ => rfl) ((when_Is_B_eq M a0).trans h1)
  rwa [when_Is_dec_inv h2] at this
noncomputable def when_Is_F (M N : Nat) (a0 : Int) : Option when_Is_R := when_Is_D M a0
theorem when_Is_F_ok (M N : Nat) : CK.OK Go.Proofs.Try.prog 10 (when_Is_ck (when_Is_F M N)) := when_Is_ck_ok fun a0 r h => when_Is_D_ok M a0 r h
abbrev when_Date_R : Type := Int × Int × Int × Int × Int × Int
def when_Date_enc (r : when_Date_R) : Res := (.tup [(false, [.d (DV.int IntKind.i64 r.1)]), (false, [.d (DV.int IntKind.i64 r.2.1)]), (false, [.d (DV.int IntKind.i64 r.2.2.1)]), (false, [.d (DV.int IntKind.i64 r.2.2.2.1)]), (false, [.d (DV.int IntKind.i64 r.2.2.2.2.1)]), (false, [.d (DV.int IntKind.i64 r.2.2.2.2.2)])], [])
def when_Date_dec (r : Res) : Option when_Date_R := match r with
  | (.tup [(false, [.d (DV.int IntKind.i64 x0)]), (false, [.d (DV.int IntKind.i64 x1)]), (false, [.d (DV.int IntKind.i64 x2)]), (false, [.d (DV.int IntKind.i64 x3)]), (false, [.d (DV.int IntKind.i64 x4)]), (false, [.d (DV.int IntKind.i64 x5)])], []) => some (x0, x1, x2, x3, x4, x5)
  | _ => none
theorem when_Date_dec_inv {r : Res} {x : when_Date_R} (h : when_Date_dec r = some x) : r = when_Date_enc x := by
  unfold when_Date_dec at h
  split at h
  · obtain rfl := Option.some.inj h; rfl
  · cases h
noncomputable def when_Date_ck (D : Int → Option when_Date_R) : CK := fun avs bs => match avs, bs with
  | [.one false [.d (DV.int IntKind.i64 a0)]], [] => CallK.via (D (a0)) when_Date_enc
  | _, _ => CallK.of none
theorem when_Date_ck_ok {D : Int → Option when_Date_R} (h : ∀ (a0 : Int), ∀ r, D (a0) = some r → CallOK Go.Proofs.Try.prog 18 [.one false [.d (DV.int IntKind.i64 a0)]] [] (when_Date_enc r)) : CK.OK Go.Proofs.Try.prog 18 (when_Date_ck D) := by
  intro avs bs r hr
  unfold when_Date_ck at hr
  split at hr
  · obtain ⟨x, hx, rfl⟩ := via_some hr
    exact h _ x hx
  · exact (none_some hr).elim
noncomputable def when_Date_T (G_when_Is : Int → Option when_Is_R) (G_when_ahead : Int → Option when_ahead_R) (G_when_days : Int → Int → Option when_days_R) : Tab := tabG Go.Proofs.Try.prog hints [(10, when_Is_ck G_when_Is), (26, when_ahead_ck G_when_ahead), (27, when_days_ck G_when_days)] noIter noMu noPrep
theorem when_Date_T_ok (G_when_Is : Int → Option when_Is_R) (G_when_ahead : Int → Option when_ahead_R) (G_when_days : Int → Int → Option when_days_R) (H_when_Is : CK.OK Go.Proofs.Try.prog 10 (when_Is_ck G_when_Is)) (H_when_ahead : CK.OK Go.Proofs.Try.prog 26 (when_ahead_ck G_when_ahead)) (H_when_days : CK.OK Go.Proofs.Try.prog 27 (when_days_ck G_when_days)) : TabOK Go.Proofs.Try.prog (when_Date_T G_when_Is G_when_ahead G_when_days) := by
  have hl : ∀ p ∈ ([(10, when_Is_ck G_when_Is), (26, when_ahead_ck G_when_ahead), (27, when_days_ck G_when_days)] : Cks), p.2.OK Go.Proofs.Try.prog p.1 := fun p hp => by
    simp only [List.mem_cons, List.not_mem_nil, or_false] at hp
    rcases hp with rfl | rfl | rfl <;> assumption
  exact tabG_ok mixed named hl noIter_ok
theorem when_Date_nodup (G_when_Is : Int → Option when_Is_R) (G_when_ahead : Int → Option when_ahead_R) (G_when_days : Int → Int → Option when_days_R) : nodupB ((blocksOf (bodyOf (when_Date_T G_when_Is G_when_ahead G_when_days) 18)).map (·.1)) = true := by kernel_rfl
def when_Date_hk0 (M : Nat) (G_when_Is : Int → Option when_Is_R) (G_when_ahead : Int → Option when_ahead_R) (G_when_days : Int → Int → Option when_days_R) : Hks := []
theorem when_Date_hk0_ok (M : Nat) (G_when_Is : Int → Option when_Is_R) (G_when_ahead : Int → Option when_ahead_R) (G_when_days : Int → Int → Option when_days_R) (_ : TabOK Go.Proofs.Try.prog (when_Date_T G_when_Is G_when_ahead G_when_days)) : HksOK Go.Proofs.Try.prog (ctxOf (when_Date_T G_when_Is G_when_ahead G_when_days) (evalK (when_Date_T G_when_Is G_when_ahead G_when_days) 20) 18) (bodyOf (when_Date_T G_when_Is G_when_ahead G_when_days) 18) (when_Date_hk0 M G_when_Is G_when_ahead G_when_days) := .nil
noncomputable def when_Date_s0 {R : Type} (M : Nat) (G_when_Is : Int → Option when_Is_R) (G_when_ahead : Int → Option when_ahead_R) (G_when_days : Int → Int → Option when_days_R) (k0 : Int → Int → Int → Option R) (rc : Int → Int → Int → Option R) (v3 : Int) (v4 : Int) (v5 : Int) : Option R :=
  bindG (G_when_ahead (IntKind.wrap IntKind.i64 (v3 + 1))) (fun r6 => bif leI r6 v4 then (rc (IntKind.wrap IntKind.i64 (v3 + 1)) (v4) (v5)) else (k0 (v3) (v4) (v5)))
noncomputable def when_Date_l0 {R : Type} (M : Nat) (G_when_Is : Int → Option when_Is_R) (G_when_ahead : Int → Option when_ahead_R) (G_when_days : Int → Int → Option when_days_R) (k0 : Int → Int → Int → Option R) : Nat → Int → Int → Int → Option R
  | 0, _, _, _ => none
  | n + 1, v3, v4, v5 => when_Date_s0 M G_when_Is G_when_ahead G_when_days k0 (when_Date_l0 M G_when_Is G_when_ahead G_when_days k0 n) v3 v4 v5
theorem when_Date_s0_eq {R : Type} (M : Nat) (G_when_Is : Int → Option when_Is_R) (G_when_ahead : Int → Option when_ahead_R) (G_when_days : Int → Int → Option when_days_R) (n : Nat) (v3 : Int) (v4 : Int) (v5 : Int) (K : AX → St → Option R) :
  rG (when_Date_T (G_when_Is) (G_when_ahead) (G_when_days)) 18 (when_Date_hk0 M G_when_Is G_when_ahead G_when_days) 0 ([2, 9, 10], [50000, 1000000, 1000001, 1000002]) (houtOf ([2, 9, 10], [50000, 1000000, 1000001, 1000002]) [] ([2, 3, 4, 5, 6, 7], [50000, 1000000, 1000001, 1000002])) (n + 1) (mkS [(2, AV.one false [CV.d (DV.int IntKind.i64 v3)]), (9, AV.one false [CV.d (DV.int IntKind.i64 v4)]), (10, AV.one false [CV.d (DV.int IntKind.i64 v5)])] []) K =
  when_Date_s0 M G_when_Is G_when_ahead G_when_days ((fun w7 w8 w9 => K .norm (mkS [(2, AV.one false [CV.d (DV.int IntKind.i64 w7)]), (9, AV.one false [CV.d (DV.int IntKind.i64 w8)]), (10, AV.one false [CV.d (DV.int IntKind.i64 w9)])] []))) (fun v3 v4 v5 => rG (when_Date_T (G_when_Is) (G_when_ahead) (G_when_days)) 18 (when_Date_hk0 M G_when_Is G_when_ahead G_when_days) 0 ([2, 9, 10], [50000, 1000000, 1000001, 1000002]) (houtOf ([2, 9, 10], [50000, 1000000, 1000001, 1000002]) [] ([2, 3, 4, 5, 6, 7], [50000, 1000000, 1000001, 1000002])) n (mkS [(2, AV.one false [CV.d (DV.int IntKind.i64 v3)]), (9, AV.one false [CV.d (DV.int IntKind.i64 v4)]), (10, AV.one false [CV.d (DV.int IntKind.i64 v5)])] []) K) v3 v4 v5 := by kernel_rfl
theorem when_Date_l0_eq {R : Type} (M : Nat) (G_when_Is : Int → Option when_Is_R) (G_when_ahead : Int → Option when_ahead_R) (G_when_days : Int → Int → Option when_days_R) (K : AX → St → Option R) : ∀ (n : Nat) (v3 : Int) (v4 : Int) (v5 : Int),
  rG (when_Date_T (G_when_Is) (G_when_ahead) (G_when_days)) 18 (when_Date_hk0 M G_when_Is G_when_ahead G_when_days) 0 ([2, 9, 10], [50000, 1000000, 1000001, 1000002]) (houtOf ([2, 9, 10], [50000, 1000000, 1000001, 1000002]) [] ([2, 3, 4, 5, 6, 7], [50000, 1000000, 1000001, 1000002])) n (mkS [(2, AV.one false [CV.d (DV.int IntKind.i64 v3)]), (9, AV.one false [CV.d (DV.int IntKind.i64 v4)]), (10, AV.one false [CV.d (DV.int IntKind.i64 v5)])] []) K = when_Date_l0 M G_when_Is G_when_ahead G_when_days ((fun w7 w8 w9 => K .norm (mkS [(2, AV.one false [CV.d (DV.int IntKind.i64 w7)]), (9, AV.one false [CV.d (DV.int IntKind.i64 w8)]), (10, AV.one false [CV.d (DV.int IntKind.i64 w9)])] []))) n v3 v4 v5
  | 0, _, _, _ => rfl
  | n + 1, v3, v4, v5 => by
    have h : (fun v3 v4 v5 => rG (when_Date_T (G_when_Is) (G_when_ahead) (G_when_days)) 18 (when_Date_hk0 M G_when_Is G_when_ahead G_when_days) 0 ([2, 9, 10], [50000, 1000000, 1000001, 1000002]) (houtOf ([2, 9, 10], [50000, 1000000, 1000001, 1000002]) [] ([2, 3, 4, 5, 6, 7], [50000, 1000000, 1000001, 1000002])) n (mkS [(2, AV.one false [CV.d (DV.int IntKind.i64 v3)]), (9, AV.one false [CV.d (DV.int IntKind.i64 v4)]), (10, AV.one false [CV.d (DV.int IntKind.i64 v5)])] []) K) = when_Date_l0 M G_when_Is G_when_ahead G_when_days ((fun w7 w8 w9 => K .norm (mkS [(2, AV.one false [CV.d (DV.int IntKind.i64 w7)]), (9, AV.one false [CV.d (DV.int IntKind.i64 w8)]), (10, AV.one false [CV.d (DV.int IntKind.i64 w9)])] []))) n := by funext v3 v4 v5; exact when_Date_l0_eq M G_when_Is G_when_ahead G_when_days K n v3 v4 v5
    rw [when_Date_s0_eq, h]; rfl
noncomputable def when_Date_l0_hook (M : Nat) (G_when_Is : Int → Option when_Is_R) (G_when_ahead : Int → Option when_ahead_R) (G_when_days : Int → Int → Option when_days_R) : HookS := ⟨fun s K => g1 (s.tm 2) fun c1 => gD c1 fun c2 => asI IntKind.i64 c2 fun v3 => g1 (s.tm 9) fun c3 => gD c3 fun c4 => asI IntKind.i64 c4 fun v4 => g1 (s.tm 10) fun c5 => gD c5 fun c6 => asI IntKind.i64 c6 fun v5 =>  when_Date_l0 M G_when_Is G_when_ahead G_when_days ((fun w7 w8 w9 => K .norm (mkS [(2, AV.one false [CV.d (DV.int IntKind.i64 w7)]), (9, AV.one false [CV.d (DV.int IntKind.i64 w8)]), (10, AV.one false [CV.d (DV.int IntKind.i64 w9)])] []))) M v3 v4 v5⟩
noncomputable def when_Date_hk1 (M : Nat) (G_when_Is : Int → Option when_Is_R) (G_when_ahead : Int → Option when_ahead_R) (G_when_days : Int → Int → Option when_days_R) : Hks := (0, when_Date_l0_hook M G_when_Is G_when_ahead G_when_days) :: when_Date_hk0 M G_when_Is G_when_ahead G_when_days
theorem when_Date_hk1_ok (M : Nat) (G_when_Is : Int → Option when_Is_R) (G_when_ahead : Int → Option when_ahead_R) (G_when_days : Int → Int → Option when_days_R) (hT : TabOK Go.Proofs.Try.prog (when_Date_T (G_when_Is) (G_when_ahead) (G_when_days))) : HksOK Go.Proofs.Try.prog (ctxOf (when_Date_T (G_when_Is) (G_when_ahead) (G_when_days)) (evalK (when_Date_T (G_when_Is) (G_when_ahead) (G_when_days)) 20) 18) (bodyOf (when_Date_T (G_when_Is) (G_when_ahead) (G_when_days)) 18) (when_Date_hk1 M G_when_Is G_when_ahead G_when_days) := by
  refine .cons (loop_hook (ctx_ok hT 18).1 (ctx_ok hT 18).2 mixed (l := when_Date_hk0 M G_when_Is G_when_ahead G_when_days) (when_Date_hk0_ok M G_when_Is G_when_ahead G_when_days hT) (when_Date_nodup G_when_Is G_when_ahead G_when_days) (i := 0) (hin := ([2, 9, 10], [50000, 1000000, 1000001, 1000002])) (hout := (houtOf ([2, 9, 10], [50000, 1000000, 1000001, 1000002]) [] ([2, 3, 4, 5, 6, 7], [50000, 1000000, 1000001, 1000002]))) (fuel := (when_Date_T (G_when_Is) (G_when_ahead) (G_when_days)).fuel) (hint := (when_Date_T (G_when_Is) (G_when_ahead) (G_when_days)).hint 18) (by kernel_rfl) fun s K r hs => ?_) (when_Date_hk0_ok M G_when_Is G_when_ahead G_when_days hT)
  obtain ⟨c1, h2, hs⟩ := g1_some hs
  obtain ⟨c2, rfl, hs⟩ := gD_some hs
  obtain ⟨v3, rfl, hs⟩ := asI_some hs
  obtain ⟨c3, h9, hs⟩ := g1_some hs
  obtain ⟨c4, rfl, hs⟩ := gD_some hs
  obtain ⟨v4, rfl, hs⟩ := asI_some hs
  obtain ⟨c5, h10, hs⟩ := g1_some hs
  obtain ⟨c6, rfl, hs⟩ := gD_some hs
  obtain ⟨v5, rfl, hs⟩ := asI_some hs
  exact ⟨M, mkS [(2, AV.one false [CV.d (DV.int IntKind.i64 v3)]), (9, AV.one false [CV.d (DV.int IntKind.i64 v4)]), (10, AV.one false [CV.d (DV.int IntKind.i64 v5)])] [], mkS_weak _ _ (by simp [*]) (by simp [*]), (when_Date_l0_eq M G_when_Is G_when_ahead G_when_days K M v3 v4 v5).trans hs⟩
noncomputable def when_Date_s2 {R : Type} (M : Nat) (G_when_Is : Int → Option when_Is_R) (G_when_ahead : Int → Option when_ahead_R) (G_when_days : Int → Int → Option when_days_R) (k0 : Int → Int → Int → Int → Option R) (rc : Int → Int → Int → Int → Option R) (v14 : Int) (v15 : Int) (v16 : Int) (v17 : Int) : Option R :=
  bindG (G_when_days (v14) (v15)) (fun r18 => bif leI r18 v16 then (bindG (G_when_days (v14) (v15)) (fun r19 => rc (v14) (IntKind.wrap IntKind.i64 (v15 + 1)) (IntKind.wrap IntKind.i64 (v16 - r19)) (v17))) else (k0 (v14) (v15) (v16) (v17)))
noncomputable def when_Date_l2 {R : Type} (M : Nat) (G_when_Is : Int → Option when_Is_R) (G_when_ahead : Int → Option when_ahead_R) (G_when_days : Int → Int → Option when_days_R) (k0 : Int → Int → Int → Int → Option R) : Nat → Int → Int → Int → Int → Option R
  | 0, _, _, _, _ => none
  | n + 1, v14, v15, v16, v17 => when_Date_s2 M G_when_Is G_when_ahead G_when_days k0 (when_Date_l2 M G_when_Is G_when_ahead G_when_days k0 n) v14 v15 v16 v17
theorem when_Date_s2_eq {R : Type} (M : Nat) (G_when_Is : Int → Option when_Is_R) (G_when_ahead : Int → Option when_ahead_R) (G_when_days : Int → Int → Option when_days_R) (n : Nat) (v14 : Int) (v15 : Int) (v16 : Int) (v17 : Int) (K : AX → St → Option R) :
  rG (when_Date_T (G_when_Is) (G_when_ahead) (G_when_days)) 18 (when_Date_hk1 M G_when_Is G_when_ahead G_when_days) 2 ([2, 3, 9, 10], [50000, 1000000, 1000001, 1000002]) (houtOf ([2, 3, 9, 10], [50000, 1000000, 1000001, 1000002]) [] ([2, 3, 4, 5, 6, 7], [50000, 1000000, 1000001, 1000002])) (n + 1) (mkS [(2, AV.one false [CV.d (DV.int IntKind.i64 v14)]), (3, AV.one false [CV.d (DV.int IntKind.i64 v15)]), (9, AV.one false [CV.d (DV.int IntKind.i64 v16)]), (10, AV.one false [CV.d (DV.int IntKind.i64 v17)])] []) K =
  when_Date_s2 M G_when_Is G_when_ahead G_when_days ((fun w20 w21 w22 w23 => K .norm (mkS [(2, AV.one false [CV.d (DV.int IntKind.i64 w20)]), (3, AV.one false [CV.d (DV.int IntKind.i64 w21)]), (9, AV.one false [CV.d (DV.int IntKind.i64 w22)]), (10, AV.one false [CV.d (DV.int IntKind.i64 w23)])] []))) (fun v14 v15 v16 v17 => rG (when_Date_T (G_when_Is) (G_when_ahead) (G_when_days)) 18 (when_Date_hk1 M G_when_Is G_when_ahead G_when_days) 2 ([2, 3, 9, 10], [50000, 1000000, 1000001, 1000002]) (houtOf ([2, 3, 9, 10], [50000, 1000000, 1000001, 1000002]) [] ([2, 3, 4, 5, 6, 7], [50000, 1000000, 1000001, 1000002])) n (mkS [(2, AV.one false [CV.d (DV.int IntKind.i64 v14)]), (3, AV.one false [CV.d (DV.int IntKind.i64 v15)]), (9, AV.one false [CV.d (DV.int IntKind.i64 v16)]), (10, AV.one false [CV.d (DV.int IntKind.i64 v17)])] []) K) v14 v15 v16 v17 := by kernel_rfl
theorem when_Date_l2_eq {R : Type} (M : Nat) (G_when_Is : Int → Option when_Is_R) (G_when_ahead : Int → Option when_ahead_R) (G_when_days : Int → Int → Option when_days_R) (K : AX → St → Option R) : ∀ (n : Nat) (v14 : Int) (v15 : Int) (v16 : Int) (v17 : Int),
  rG (when_Date_T (G_when_Is) (G_when_ahead) (G_when_days)) 18 (when_Date_hk1 M G_when_Is G_when_ahead G_when_days) 2 ([2, 3, 9, 10], [50000, 1000000, 1000001, 1000002]) (houtOf ([2, 3, 9, 10], [50000, 1000000, 1000001, 1000002]) [] ([2, 3, 4, 5, 6, 7], [50000, 1000000, 1000001, 1000002])) n (mkS [(2, AV.one false [CV.d (DV.int IntKind.i64 v14)]), (3, AV.one false [CV.d (DV.int IntKind.i64 v15)]), (9, AV.one false [CV.d (DV.int IntKind.i64 v16)]), (10, AV.one false [CV.d (DV.int IntKind.i64 v17)])] []) K = when_Date_l2 M G_when_Is G_when_ahead G_when_days ((fun w20 w21 w22 w23 => K .norm (mkS [(2, AV.one false [CV.d (DV.int IntKind.i64 w20)]), (3, AV.one false [CV.d (DV.int IntKind.i64 w21)]), (9, AV.one false [CV.d (DV.int IntKind.i64 w22)]), (10, AV.one false [CV.d (DV.int IntKind.i64 w23)])] []))) n v14 v15 v16 v17
  | 0, _, _, _, _ => rfl
  | n + 1, v14, v15, v16, v17 => by
    have h : (fun v14 v15 v16 v17 => rG (when_Date_T (G_when_Is) (G_when_ahead) (G_when_days)) 18 (when_Date_hk1 M G_when_Is G_when_ahead G_when_days) 2 ([2, 3, 9, 10], [50000, 1000000, 1000001, 1000002]) (houtOf ([2, 3, 9, 10], [50000, 1000000, 1000001, 1000002]) [] ([2, 3, 4, 5, 6, 7], [50000, 1000000, 1000001, 1000002])) n (mkS [(2, AV.one false [CV.d (DV.int IntKind.i64 v14)]), (3, AV.one false [CV.d (DV.int IntKind.i64 v15)]), (9, AV.one false [CV.d (DV.int IntKind.i64 v16)]), (10, AV.one false [CV.d (DV.int IntKind.i64 v17)])] []) K) = when_Date_l2 M G_when_Is G_when_ahead G_when_days ((fun w20 w21 w22 w23 => K .norm (mkS [(2, AV.one false [CV.d (DV.int IntKind.i64 w20)]), (3, AV.one false [CV.d (DV.int IntKind.i64 w21)]), (9, AV.one false [CV.d (DV.int IntKind.i64 w22)]), (10, AV.one false [CV.d (DV.int IntKind.i64 w23)])] []))) n := by funext v14 v15 v16 v17; exact when_Date_l2_eq M G_when_Is G_when_ahead G_when_days K n v14 v15 v16 v17
    rw [when_Date_s2_eq, h]; rfl
noncomputable def when_Date_l2_hook (M : Nat) (G_when_Is : Int → Option when_Is_R) (G_when_ahead : Int → Option when_ahead_R) (G_when_days : Int → Int → Option when_days_R) : HookS := ⟨fun s K => g1 (s.tm 2) fun c1 => gD c1 fun c2 => asI IntKind.i64 c2 fun v14 => g1 (s.tm 3) fun c3 => gD c3 fun c4 => asI IntKind.i64 c4 fun v15 => g1 (s.tm 9) fun c5 => gD c5 fun c6 => asI IntKind.i64 c6 fun v16 => g1 (s.tm 10) fun c7 => gD c7 fun c8 => asI IntKind.i64 c8 fun v17 =>  when_Date_l2 M G_when_Is G_when_ahead G_when_days ((fun w20 w21 w22 w23 => K .norm (mkS [(2, AV.one false [CV.d (DV.int IntKind.i64 w20)]), (3, AV.one false [CV.d (DV.int IntKind.i64 w21)]), (9, AV.one false [CV.d (DV.int IntKind.i64 w22)]), (10, AV.one false [CV.d (DV.int IntKind.i64 w23)])] []))) M v14 v15 v16 v17⟩
noncomputable def when_Date_hk2 (M : Nat) (G_when_Is : Int → Option when_Is_R) (G_when_ahead : Int → Option when_ahead_R) (G_when_days : Int → Int → Option when_days_R) : Hks := (2, when_Date_l2_hook M G_when_Is G_when_ahead G_when_days) :: when_Date_hk1 M G_when_Is G_when_ahead G_when_days
theorem when_Date_hk2_ok (M : Nat) (G_when_Is : Int → Option when_Is_R) (G_when_ahead : Int → Option when_ahead_R) (G_when_days : Int → Int → Option when_days_R) (hT : TabOK Go.Proofs.Try.prog (when_Date_T (G_when_Is) (G_when_ahead) (G_when_days))) : HksOK Go.Proofs.Try.prog (ctxOf (when_Date_T (G_when_Is) (G_when_ahead) (G_when_days)) (evalK (when_Date_T (G_when_Is) (G_when_ahead) (G_when_days)) 20) 18) (bodyOf (when_Date_T (G_when_Is) (G_when_ahead) (G_when_days)) 18) (when_Date_hk2 M G_when_Is G_when_ahead G_when_days) := by
  refine .cons (loop_hook (ctx_ok hT 18).1 (ctx_ok hT 18).2 mixed (l := when_Date_hk1 M G_when_Is G_when_ahead G_when_days) (when_Date_hk1_ok M G_when_Is G_when_ahead G_when_days hT) (when_Date_nodup G_when_Is G_when_ahead G_when_days) (i := 2) (hin := ([2, 3, 9, 10], [50000, 1000000, 1000001, 1000002])) (hout := (houtOf ([2, 3, 9, 10], [50000, 1000000, 1000001, 1000002]) [] ([2, 3, 4, 5, 6, 7], [50000, 1000000, 1000001, 1000002]))) (fuel := (when_Date_T (G_when_Is) (G_when_ahead) (G_when_days)).fuel) (hint := (when_Date_T (G_when_Is) (G_when_ahead) (G_when_days)).hint 18) (by kernel_rfl) fun s K r hs => ?_) (when_Date_hk1_ok M G_when_Is G_when_ahead G_when_days hT)
  obtain ⟨c1, h2, hs⟩ := g1_some hs
  obtain ⟨c2, rfl, hs⟩ := gD_some hs
  obtain ⟨v14, rfl, hs⟩ := asI_some hs
  obtain ⟨c3, h3, hs⟩ := g1_some hs
  obtain ⟨c4, rfl, hs⟩ := gD_some hs
  obtain ⟨v15, rfl, hs⟩ := asI_some hs
  obtain ⟨c5, h9, hs⟩ := g1_some hs
  obtain ⟨c6, rfl, hs⟩ := gD_some hs
  obtain ⟨v16, rfl, hs⟩ := asI_some hs
  obtain ⟨c7, h10, hs⟩ := g1_some hs
  obtain ⟨c8, rfl, hs⟩ := gD_some hs
  obtain ⟨v17, rfl, hs⟩ := asI_some hs
  exact ⟨M, mkS [(2, AV.one false [CV.d (DV.int IntKind.i64 v14)]), (3, AV.one false [CV.d (DV.int IntKind.i64 v15)]), (9, AV.one false [CV.d (DV.int IntKind.i64 v16)]), (10, AV.one false [CV.d (DV.int IntKind.i64 v17)])] [], mkS_weak _ _ (by simp [*]) (by simp [*]), (when_Date_l2_eq M G_when_Is G_when_ahead G_when_days K M v14 v15 v16 v17).trans hs⟩
noncomputable def when_Date_B (M : Nat) (G_when_Is : Int → Option when_Is_R) (G_when_ahead : Int → Option when_ahead_R) (G_when_days : Int → Int → Option when_days_R) (a0 : Int) : Option Res :=
  bindG (G_when_Is (a0)) (fun r1 => bif !r1 then (some (AV.tup [(false, [CV.d (DV.int IntKind.i64 0)]), (false, [CV.d (DV.int IntKind.i64 0)]), (false, [CV.d (DV.int IntKind.i64 0)]), (false, [CV.d (DV.int IntKind.i64 0)]), (false, [CV.d (DV.int IntKind.i64 0)]), (false, [CV.d (DV.int IntKind.i64 0)])], [])) else (bindG (G_when_ahead (1970)) (fun r2 => when_Date_l0 (M) (G_when_Is) (G_when_ahead) (G_when_days) ((fun w10 w11 w12 => bindG (G_when_ahead (w10)) (fun r13 => when_Date_l2 (M) (G_when_Is) (G_when_ahead) (G_when_days) ((fun w24 w25 w26 w27 => some (AV.tup [(false, [CV.d (DV.int IntKind.i64 w24)]), (false, [CV.d (DV.int IntKind.i64 w25)]), (false, [CV.d (DV.int IntKind.i64 (IntKind.wrap IntKind.i64 (w26 + 1)))]), (false, [CV.d (DV.int IntKind.i64 (IntKind.wrap IntKind.i64 (Int.tdiv w27 3600)))]), (false, [CV.d (DV.int IntKind.i64 (IntKind.wrap IntKind.i64 (Int.tdiv (Int.tmod w27 3600) 60)))]), (false, [CV.d (DV.int IntKind.i64 (Int.tmod w27 60))])], []))) (M) (w10) (1) (IntKind.wrap IntKind.i64 (w11 - r13)) (w12)))) (M) (IntKind.wrap IntKind.i64 (IntKind.wrap IntKind.i64 (Int.tdiv (IntKind.wrap IntKind.i64 (Int.tdiv (IntKind.wrap IntKind.i64 (IntKind.wrap IntKind.i64 (r2 * 86400) + a0)) 86400)) 366) + 1)) (IntKind.wrap IntKind.i64 (Int.tdiv (IntKind.wrap IntKind.i64 (IntKind.wrap IntKind.i64 (r2 * 86400) + a0)) 86400)) (Int.tmod (IntKind.wrap IntKind.i64 (IntKind.wrap IntKind.i64 (r2 * 86400) + a0)) 86400))))
theorem when_Date_B_eq (M : Nat) (G_when_Is : Int → Option when_Is_R) (G_when_ahead : Int → Option when_ahead_R) (G_when_days : Int → Int → Option when_days_R) (a0 : Int) : evalBH (when_Date_T G_when_Is G_when_ahead G_when_days) (findHk (when_Date_hk2 M G_when_Is G_when_ahead G_when_days)) (evalK (when_Date_T G_when_Is G_when_ahead G_when_days) 20) 18 [.one false [.d (DV.int IntKind.i64 a0)]] [] = when_Date_B M G_when_Is G_when_ahead G_when_days a0 := by kernel_rfl
noncomputable def when_Date_D (M : Nat) (G_when_Is : Int → Option when_Is_R) (G_when_ahead : Int → Option when_ahead_R) (G_when_days : Int → Int → Option when_days_R) (a0 : Int) : Option when_Date_R := (when_Date_B M G_when_Is G_when_ahead G_when_days a0).bind when_Date_dec
theorem when_Date_D_ok (M : Nat) (G_when_Is : Int → Option when_Is_R) (G_when_ahead : Int → Option when_ahead_R) (G_when_days : Int → Int → Option when_days_R) (H_when_Is : CK.OK Go.Proofs.Try.prog 10 (when_Is_ck G_when_Is)) (H_when_ahead : CK.OK Go.Proofs.Try.prog 26 (when_ahead_ck G_when_ahead)) (H_when_days : CK.OK Go.Proofs.Try.prog 27 (when_days_ck G_when_days)) (a0 : Int) (r : when_Date_R) (h : when_Date_D M G_when_Is G_when_ahead G_when_days a0 = some r) : CallOK Go.Proofs.Try.prog 18 [.one false [.d (DV.int IntKind.i64 a0)]] [] (when_Date_enc r) := by
  obtain ⟨res, h1, h2⟩ := Option.bind_eq_some_iff.1 h
  have hT := when_Date_T_ok G_when_Is G_when_ahead G_when_days H_when_Is H_when_ahead H_when_days
  have this := evalG_ok hT (when_Date_hk2_ok M G_when_Is G_when_ahead G_when_days hT) (when_Date_nodup G_when_Is G_when_ahead G_when_days) (fun _ _ _ => rfl) ((when_Date_B_eq M G_when_Is G_when_ahead G_when_days a0).trans h1)
  rwa [when_Date_dec_inv h2] at this
noncomputable def when_Date_F (M N : Nat) (a0 : Int) : Option when_Date_R := when_Date_D M (when_Is_F M N) (when_ahead_F M N) (when_days_F M N) a0
theorem when_Date_F_ok (M N : Nat) : CK.OK Go.Proofs.Try.prog 18 (when_Date_ck (when_Date_F M N)) := when_Date_ck_ok fun a0 r h => when_Date_D_ok M _ _ _ (when_Is_F_ok M N) (when_ahead_F_ok M N) (when_days_F_ok M N) a0 r h
abbrev when_of_R : Type := Int
def when_of_enc (r : when_of_R) : Res := (.one false [.d (DV.int IntKind.i64 r)], [])
def when_of_dec (r : Res) : Option when_of_R := match r with
  | (.one false [.d (DV.int IntKind.i64 x0)], []) => some x0
  | _ => none
theorem when_of_dec_inv {r : Res} {x : when_of_R} (h : when_of_dec r = some x) : r = when_of_enc x := by
  unfold when_of_dec at h
  split at h
  · obtain rfl := Option.some.inj h; rfl
  · cases h
noncomputable def when_of_ck (D : Int → List Int → Option when_of_R) : CK := fun avs bs => match avs, bs with
  | [.one false [.d (DV.int IntKind.i64 a0)], .one false [.d (DV.ints IntKind.i64 a1)]], [] => CallK.via (D (a0) (a1)) when_of_enc
  | _, _ => CallK.of none
theorem when_of_ck_ok {D : Int → List Int → Option when_of_R} (h : ∀ (a0 : Int) (a1 : List Int), ∀ r, D (a0) (a1) = some r → CallOK Go.Proofs.Try.prog 22 [.one false [.d (DV.int IntKind.i64 a0)], .one false [.d (DV.ints IntKind.i64 a1)]] [] (when_of_enc r)) : CK.OK Go.Proofs.Try.prog 22 (when_of_ck D) := by
  intro avs bs r hr
  unfold when_of_ck at hr
  split at hr
  · obtain ⟨x, hx, rfl⟩ := via_some hr
    exact h _ _ x hx
  · exact (none_some hr).elim
noncomputable def when_of_T (G_when_ahead : Int → Option when_ahead_R) (G_when_days : Int → Int → Option when_days_R) : Tab := tabG Go.Proofs.Try.prog hints [(26, when_ahead_ck G_when_ahead), (27, when_days_ck G_when_days)] noIter noMu noPrep
theorem when_of_T_ok (G_when_ahead : Int → Option when_ahead_R) (G_when_days : Int → Int → Option when_days_R) (H_when_ahead : CK.OK Go.Proofs.Try.prog 26 (when_ahead_ck G_when_ahead)) (H_when_days : CK.OK Go.Proofs.Try.prog 27 (when_days_ck G_when_days)) : TabOK Go.Proofs.Try.prog (when_of_T G_when_ahead G_when_days) := by
  have hl : ∀ p ∈ ([(26, when_ahead_ck G_when_ahead), (27, when_days_ck G_when_days)] : Cks), p.2.OK Go.Proofs.Try.prog p.1 := fun p hp => by
    simp only [List.mem_cons, List.not_mem_nil, or_false] at hp
    rcases hp with rfl | rfl <;> assumption
  exact tabG_ok mixed named hl noIter_ok
theorem when_of_nodup (G_when_ahead : Int → Option when_ahead_R) (G_when_days : Int → Int → Option when_days_R) : nodupB ((blocksOf (bodyOf (when_of_T G_when_ahead G_when_days) 22)).map (·.1)) = true := by kernel_rfl
def when_of_hk0 (M : Nat) (G_when_ahead : Int → Option when_ahead_R) (G_when_days : Int → Int → Option when_days_R) : Hks := []
theorem when_of_hk0_ok (M : Nat) (G_when_ahead : Int → Option when_ahead_R) (G_when_days : Int → Int → Option when_days_R) (_ : TabOK Go.Proofs.Try.prog (when_of_T G_when_ahead G_when_days)) : HksOK Go.Proofs.Try.prog (ctxOf (when_of_T G_when_ahead G_when_days) (evalK (when_of_T G_when_ahead G_when_days) 20) 22) (bodyOf (when_of_T G_when_ahead G_when_days) 22) (when_of_hk0 M G_when_ahead G_when_days) := .nil
noncomputable def when_of_s0 {R : Type} (M : Nat) (G_when_ahead : Int → Option when_ahead_R) (G_when_days : Int → Int → Option when_days_R) (k0 : List Int → Int → Option R) (rc : Int → List Int → Int → Int → Option R) (v3 : Int) (v4 : List Int) (v5 : Int) (v6 : Int) : Option R :=
  nth (v4) (0) (fun x7 => bif ltI v6 x7 then (bif ltI v6 12 then (bindG (G_when_days (v3) (v6)) (fun r8 => rc (v3) (v4) (IntKind.wrap IntKind.i64 (v5 + r8)) (IntKind.wrap IntKind.i64 (v6 + 1)))) else (k0 (v4) (v5))) else (k0 (v4) (v5)))
noncomputable def when_of_l0 {R : Type} (M : Nat) (G_when_ahead : Int → Option when_ahead_R) (G_when_days : Int → Int → Option when_days_R) (k0 : List Int → Int → Option R) : Nat → Int → List Int → Int → Int → Option R
  | 0, _, _, _, _ => none
  | n + 1, v3, v4, v5, v6 => when_of_s0 M G_when_ahead G_when_days k0 (when_of_l0 M G_when_ahead G_when_days k0 n) v3 v4 v5 v6
theorem when_of_s0_eq {R : Type} (M : Nat) (G_when_ahead : Int → Option when_ahead_R) (G_when_days : Int → Int → Option when_days_R) (n : Nat) (v3 : Int) (v4 : List Int) (v5 : Int) (v6 : Int) (K : AX → St → Option R) :
  rG (when_of_T (G_when_ahead) (G_when_days)) 22 (when_of_hk0 M G_when_ahead G_when_days) 0 ([0, 1, 5, 6], [50000, 1000000, 1000001, 1000002]) (houtOf ([1, 5], [50000, 1000000, 1000001, 1000002]) [] ([4], [50000, 1000000, 1000001, 1000002])) (n + 1) (mkS [(0, AV.one false [CV.d (DV.int IntKind.i64 v3)]), (1, AV.one false [CV.d (DV.ints IntKind.i64 v4)]), (5, AV.one false [CV.d (DV.int IntKind.i64 v5)]), (6, AV.one false [CV.d (DV.int IntKind.i64 v6)])] []) K =
  when_of_s0 M G_when_ahead G_when_days ((fun w9 w10 => K .norm (mkS [(1, AV.one false [CV.d (DV.ints IntKind.i64 w9)]), (5, AV.one false [CV.d (DV.int IntKind.i64 w10)])] []))) (fun v3 v4 v5 v6 => rG (when_of_T (G_when_ahead) (G_when_days)) 22 (when_of_hk0 M G_when_ahead G_when_days) 0 ([0, 1, 5, 6], [50000, 1000000, 1000001, 1000002]) (houtOf ([1, 5], [50000, 1000000, 1000001, 1000002]) [] ([4], [50000, 1000000, 1000001, 1000002])) n (mkS [(0, AV.one false [CV.d (DV.int IntKind.i64 v3)]), (1, AV.one false [CV.d (DV.ints IntKind.i64 v4)]), (5, AV.one false [CV.d (DV.int IntKind.i64 v5)]), (6, AV.one false [CV.d (DV.int IntKind.i64 v6)])] []) K) v3 v4 v5 v6 := by kernel_rfl
theorem when_of_l0_eq {R : Type} (M : Nat) (G_when_ahead : Int → Option when_ahead_R) (G_when_days : Int → Int → Option when_days_R) (K : AX → St → Option R) : ∀ (n : Nat) (v3 : Int) (v4 : List Int) (v5 : Int) (v6 : Int),
  rG (when_of_T (G_when_ahead) (G_when_days)) 22 (when_of_hk0 M G_when_ahead G_when_days) 0 ([0, 1, 5, 6], [50000, 1000000, 1000001, 1000002]) (houtOf ([1, 5], [50000, 1000000, 1000001, 1000002]) [] ([4], [50000, 1000000, 1000001, 1000002])) n (mkS [(0, AV.one false [CV.d (DV.int IntKind.i64 v3)]), (1, AV.one false [CV.d (DV.ints IntKind.i64 v4)]), (5, AV.one false [CV.d (DV.int IntKind.i64 v5)]), (6, AV.one false [CV.d (DV.int IntKind.i64 v6)])] []) K = when_of_l0 M G_when_ahead G_when_days ((fun w9 w10 => K .norm (mkS [(1, AV.one false [CV.d (DV.ints IntKind.i64 w9)]), (5, AV.one false [CV.d (DV.int IntKind.i64 w10)])] []))) n v3 v4 v5 v6
  | 0, _, _, _, _ => rfl
  | n + 1, v3, v4, v5, v6 => by
    have h : (fun v3 v4 v5 v6 => rG (when_of_T (G_when_ahead) (G_when_days)) 22 (when_of_hk0 M G_when_ahead G_when_days) 0 ([0, 1, 5, 6], [50000, 1000000, 1000001, 1000002]) (houtOf ([1, 5], [50000, 1000000, 1000001, 1000002]) [] ([4], [50000, 1000000, 1000001, 1000002])) n (mkS [(0, AV.one false [CV.d (DV.int IntKind.i64 v3)]), (1, AV.one false [CV.d (DV.ints IntKind.i64 v4)]), (5, AV.one false [CV.d (DV.int IntKind.i64 v5)]), (6, AV.one false [CV.d (DV.int IntKind.i64 v6)])] []) K) = when_of_l0 M G_when_ahead G_when_days ((fun w9 w10 => K .norm (mkS [(1, AV.one false [CV.d (DV.ints IntKind.i64 w9)]), (5, AV.one false [CV.d (DV.int IntKind.i64 w10)])] []))) n := by funext v3 v4 v5 v6; exact when_of_l0_eq M G_when_ahead G_when_days K n v3 v4 v5 v6
    rw [when_of_s0_eq, h]; rfl
noncomputable def when_of_l0_hook (M : Nat) (G_when_ahead : Int → Option when_ahead_R) (G_when_days : Int → Int → Option when_days_R) : HookS := ⟨fun s K => g1 (s.tm 0) fun c1 => gD c1 fun c2 => asI IntKind.i64 c2 fun v3 => g1 (s.tm 1) fun c3 => gD c3 fun c4 => asR IntKind.i64 c4 fun v4 => g1 (s.tm 5) fun c5 => gD c5 fun c6 => asI IntKind.i64 c6 fun v5 => g1 (s.tm 6) fun c7 => gD c7 fun c8 => asI IntKind.i64 c8 fun v6 =>  when_of_l0 M G_when_ahead G_when_days ((fun w9 w10 => K .norm (mkS [(1, AV.one false [CV.d (DV.ints IntKind.i64 w9)]), (5, AV.one false [CV.d (DV.int IntKind.i64 w10)])] []))) M v3 v4 v5 v6⟩
noncomputable def when_of_hk1 (M : Nat) (G_when_ahead : Int → Option when_ahead_R) (G_when_days : Int → Int → Option when_days_R) : Hks := (0, when_of_l0_hook M G_when_ahead G_when_days) :: when_of_hk0 M G_when_ahead G_when_days
theorem when_of_hk1_ok (M : Nat) (G_when_ahead : Int → Option when_ahead_R) (G_when_days : Int → Int → Option when_days_R) (hT : TabOK Go.Proofs.Try.prog (when_of_T (G_when_ahead) (G_when_days))) : HksOK Go.Proofs.Try.prog (ctxOf (when_of_T (G_when_ahead) (G_when_days)) (evalK (when_of_T (G_when_ahead) (G_when_days)) 20) 22) (bodyOf (when_of_T (G_when_ahead) (G_when_days)) 22) (when_of_hk1 M G_when_ahead G_when_days) := by
  refine .cons (loop_hook (ctx_ok hT 22).1 (ctx_ok hT 22).2 mixed (l := when_of_hk0 M G_when_ahead G_when_days) (when_of_hk0_ok M G_when_ahead G_when_days hT) (when_of_nodup G_when_ahead G_when_days) (i := 0) (hin := ([0, 1, 5, 6], [50000, 1000000, 1000001, 1000002])) (hout := (houtOf ([1, 5], [50000, 1000000, 1000001, 1000002]) [] ([4], [50000, 1000000, 1000001, 1000002]))) (fuel := (when_of_T (G_when_ahead) (G_when_days)).fuel) (hint := (when_of_T (G_when_ahead) (G_when_days)).hint 22) (by kernel_rfl) fun s K r hs => ?_) (when_of_hk0_ok M G_when_ahead G_when_days hT)
  obtain ⟨c1, h0, hs⟩ := g1_some hs
  obtain ⟨c2, rfl, hs⟩ := gD_some hs
  obtain ⟨v3, rfl, hs⟩ := asI_some hs
  obtain ⟨c3, h1, hs⟩ := g1_some hs
  obtain ⟨c4, rfl, hs⟩ := gD_some hs
  obtain ⟨v4, rfl, hs⟩ := asR_some hs
  obtain ⟨c5, h5, hs⟩ := g1_some hs
  obtain ⟨c6, rfl, hs⟩ := gD_some hs
  obtain ⟨v5, rfl, hs⟩ := asI_some hs
  obtain ⟨c7, h6, hs⟩ := g1_some hs
  obtain ⟨c8, rfl, hs⟩ := gD_some hs
  obtain ⟨v6, rfl, hs⟩ := asI_some hs
  exact ⟨M, mkS [(0, AV.one false [CV.d (DV.int IntKind.i64 v3)]), (1, AV.one false [CV.d (DV.ints IntKind.i64 v4)]), (5, AV.one false [CV.d (DV.int IntKind.i64 v5)]), (6, AV.one false [CV.d (DV.int IntKind.i64 v6)])] [], mkS_weak _ _ (by simp [*]) (by simp [*]), (when_of_l0_eq M G_when_ahead G_when_days K M v3 v4 v5 v6).trans hs⟩
noncomputable def when_of_B (M : Nat) (G_when_ahead : Int → Option when_ahead_R) (G_when_days : Int → Int → Option when_days_R) (a0 : Int) (a1 : List Int) : Option Res :=
  bindG (G_when_ahead (a0)) (fun r1 => bindG (G_when_ahead (1970)) (fun r2 => when_of_l0 (M) (G_when_ahead) (G_when_days) ((fun w11 w12 => nth (w11) (1) (fun x13 => nth (w11) (2) (fun x14 => nth (w11) (3) (fun x15 => nth (w11) (4) (fun x16 => some (AV.one false [CV.d (DV.int IntKind.i64 (IntKind.wrap IntKind.i64 (IntKind.wrap IntKind.i64 (IntKind.wrap IntKind.i64 (IntKind.wrap IntKind.i64 (IntKind.wrap IntKind.i64 (IntKind.wrap IntKind.i64 (w12 + x13) - 1) * 86400) + IntKind.wrap IntKind.i64 (x14 * 3600)) + IntKind.wrap IntKind.i64 (x15 * 60)) + x16)))], []))))))) (M) (a0) (a1) (IntKind.wrap IntKind.i64 (r1 - r2)) (1)))
theorem when_of_B_eq (M : Nat) (G_when_ahead : Int → Option when_ahead_R) (G_when_days : Int → Int → Option when_days_R) (a0 : Int) (a1 : List Int) : evalBH (when_of_T G_when_ahead G_when_days) (findHk (when_of_hk1 M G_when_ahead G_when_days)) (evalK (when_of_T G_when_ahead G_when_days) 20) 22 [.one false [.d (DV.int IntKind.i64 a0)], .one false [.d (DV.ints IntKind.i64 a1)]] [] = when_of_B M G_when_ahead G_when_days a0 a1 := by kernel_rfl
noncomputable def when_of_D (M : Nat) (G_when_ahead : Int → Option when_ahead_R) (G_when_days : Int → Int → Option when_days_R) (a0 : Int) (a1 : List Int) : Option when_of_R := (when_of_B M G_when_ahead G_when_days a0 a1).bind when_of_dec
theorem when_of_D_ok (M : Nat) (G_when_ahead : Int → Option when_ahead_R) (G_when_days : Int → Int → Option when_days_R) (H_when_ahead : CK.OK Go.Proofs.Try.prog 26 (when_ahead_ck G_when_ahead)) (H_when_days : CK.OK Go.Proofs.Try.prog 27 (when_days_ck G_when_days)) (a0 : Int) (a1 : List Int) (r : when_of_R) (h : when_of_D M G_when_ahead G_when_days a0 a1 = some r) : CallOK Go.Proofs.Try.prog 22 [.one false [.d (DV.int IntKind.i64 a0)], .one false [.d (DV.ints IntKind.i64 a1)]] [] (when_of_enc r) := by
  obtain ⟨res, h1, h2⟩ := Option.bind_eq_some_iff.1 h
  have hT := when_of_T_ok G_when_ahead G_when_days H_when_ahead H_when_days
  have this := evalG_ok hT (when_of_hk1_ok M G_when_ahead G_when_days hT) (when_of_nodup G_when_ahead G_when_days) (fun _ _ _ => rfl) ((when_of_B_eq M G_when_ahead G_when_days a0 a1).trans h1)
  rwa [when_of_dec_inv h2] at this
noncomputable def when_of_F (M N : Nat) (a0 : Int) (a1 : List Int) : Option when_of_R := when_of_D M (when_ahead_F M N) (when_days_F M N) a0 a1
theorem when_of_F_ok (M N : Nat) : CK.OK Go.Proofs.Try.prog 22 (when_of_ck (when_of_F M N)) := when_of_ck_ok fun a0 a1 r h => when_of_D_ok M _ _ (when_ahead_F_ok M N) (when_days_F_ok M N) a0 a1 r h
end Go.Proofs.Ythmdefgepnkgiaa.Eng
