/- Functions of the program, told by functions (printed by wip/g/mkdec.py). Conditions: none. -/
import Derived.Test.YthmdefgepnkgiaaGK
import Derived.Test.YthmdefgepnkgiaaD1
import Derived.Test.YthmdefgepnkgiaaD2
import Derived.Test.YthmdefgepnkgiaaD3
import Derived.Test.YthmdefgepnkgiaaN21
import Derived.Test.YthmdefgepnkgiaaD5
namespace Go.Proofs.Ythmdefgepnkgiaa.Eng
open Go
set_option maxRecDepth 100000
set_option linter.unusedVariables false
set_option linter.unusedSimpArgs false
abbrev law14_date_R : Type := Bool
def law14_date_enc (r : law14_date_R) : Res := (.one false [.d (DV.bool r)], [])
def law14_date_dec (r : Res) : Option law14_date_R := match r with
  | (.one false [.d (DV.bool x0)], []) => some x0
  | _ => none
theorem law14_date_dec_inv {r : Res} {x : law14_date_R} (h : law14_date_dec r = some x) : r = law14_date_enc x := by
  unfold law14_date_dec at h
  split at h
  · obtain rfl := Option.some.inj h; rfl
  · cases h
noncomputable def law14_date_ck (D : Int → Option law14_date_R) : CK := fun avs bs => match avs, bs with
  | [.one false [.d (DV.int IntKind.i64 a0)]], [] => CallK.via (D (a0)) law14_date_enc
  | _, _ => CallK.of none
theorem law14_date_ck_ok {D : Int → Option law14_date_R} (h : ∀ (a0 : Int), ∀ r, D (a0) = some r → CallOK Go.Proofs.Try.prog 13 [.one false [.d (DV.int IntKind.i64 a0)]] [] (law14_date_enc r)) : CK.OK Go.Proofs.Try.prog 13 (law14_date_ck D) := by
  intro avs bs r hr
  unfold law14_date_ck at hr
  split at hr
  · obtain ⟨x, hx, rfl⟩ := via_some hr
    exact h _ x hx
  · exact (none_some hr).elim
noncomputable def law14_date_T (G_when_Date : Int → Option when_Date_R) (G_ref14_Date : Int → Option ref14_Date_R) : Tab := tabG Go.Proofs.Try.prog hints [(18, when_Date_ck G_when_Date), (17, ref14_Date_ck G_ref14_Date)] noIter noMu noPrep
theorem law14_date_T_ok (G_when_Date : Int → Option when_Date_R) (G_ref14_Date : Int → Option ref14_Date_R) (H_when_Date : CK.OK Go.Proofs.Try.prog 18 (when_Date_ck G_when_Date)) (H_ref14_Date : CK.OK Go.Proofs.Try.prog 17 (ref14_Date_ck G_ref14_Date)) : TabOK Go.Proofs.Try.prog (law14_date_T G_when_Date G_ref14_Date) := by
  have hl : ∀ p ∈ ([(18, when_Date_ck G_when_Date), (17, ref14_Date_ck G_ref14_Date)] : Cks), p.2.OK Go.Proofs.Try.prog p.1 := fun p hp => by
    simp only [List.mem_cons, List.not_mem_nil, or_false] at hp
    rcases hp with rfl | rfl <;> assumption
  exact tabG_ok mixed named hl noIter_ok
theorem law14_date_nodup (G_when_Date : Int → Option when_Date_R) (G_ref14_Date : Int → Option ref14_Date_R) : nodupB ((blocksOf (bodyOf (law14_date_T G_when_Date G_ref14_Date) 13)).map (·.1)) = true := by kernel_rfl
def law14_date_hk0 (M : Nat) (G_when_Date : Int → Option when_Date_R) (G_ref14_Date : Int → Option ref14_Date_R) : Hks := []
theorem law14_date_hk0_ok (M : Nat) (G_when_Date : Int → Option when_Date_R) (G_ref14_Date : Int → Option ref14_Date_R) (_ : TabOK Go.Proofs.Try.prog (law14_date_T G_when_Date G_ref14_Date)) : HksOK Go.Proofs.Try.prog (ctxOf (law14_date_T G_when_Date G_ref14_Date) (evalK (law14_date_T G_when_Date G_ref14_Date) 20) 13) (bodyOf (law14_date_T G_when_Date G_ref14_Date) 13) (law14_date_hk0 M G_when_Date G_ref14_Date) := .nil
noncomputable def law14_date_B (M : Nat) (G_when_Date : Int → Option when_Date_R) (G_ref14_Date : Int → Option ref14_Date_R) (a0 : Int) : Option Res :=
  bindG (G_when_Date (a0)) (fun r1 => bindG (G_ref14_Date (a0)) (fun r2 => some (AV.one false [CV.d (DV.bool (eqI r1.fst r2.fst && (eqI r1.snd.fst r2.snd.fst && (eqI r1.snd.snd.fst r2.snd.snd.fst && (eqI r1.snd.snd.snd.fst r2.snd.snd.snd.fst && (eqI r1.snd.snd.snd.snd.fst r2.snd.snd.snd.snd.fst && (eqI r1.snd.snd.snd.snd.snd r2.snd.snd.snd.snd.snd && true)))))))], [])))
theorem law14_date_B_eq (M : Nat) (G_when_Date : Int → Option when_Date_R) (G_ref14_Date : Int → Option ref14_Date_R) (a0 : Int) : evalBH (law14_date_T G_when_Date G_ref14_Date) (findHk (law14_date_hk0 M G_when_Date G_ref14_Date)) (evalK (law14_date_T G_when_Date G_ref14_Date) 20) 13 [.one false [.d (DV.int IntKind.i64 a0)]] [] = law14_date_B M G_when_Date G_ref14_Date a0 := by kernel_rfl
noncomputable def law14_date_D (M : Nat) (G_when_Date : Int → Option when_Date_R) (G_ref14_Date : Int → Option ref14_Date_R) (a0 : Int) : Option law14_date_R := (law14_date_B M G_when_Date G_ref14_Date a0).bind law14_date_dec
theorem law14_date_D_ok (M : Nat) (G_when_Date : Int → Option when_Date_R) (G_ref14_Date : Int → Option ref14_Date_R) (H_when_Date : CK.OK Go.Proofs.Try.prog 18 (when_Date_ck G_when_Date)) (H_ref14_Date : CK.OK Go.Proofs.Try.prog 17 (ref14_Date_ck G_ref14_Date)) (a0 : Int) (r : law14_date_R) (h : law14_date_D M G_when_Date G_ref14_Date a0 = some r) : CallOK Go.Proofs.Try.prog 13 [.one false [.d (DV.int IntKind.i64 a0)]] [] (law14_date_enc r) := by
  obtain ⟨res, h1, h2⟩ := Option.bind_eq_some_iff.1 h
  have hT := law14_date_T_ok G_when_Date G_ref14_Date H_when_Date H_ref14_Date
  have this := evalG_ok hT (law14_date_hk0_ok M G_when_Date G_ref14_Date hT) (law14_date_nodup G_when_Date G_ref14_Date) (fun _ _ _ => rfl) ((law14_date_B_eq M G_when_Date G_ref14_Date a0).trans h1)
  rwa [law14_date_dec_inv h2] at this
noncomputable def law14_date_F (M N : Nat) (a0 : Int) : Option law14_date_R := law14_date_D M (when_Date_F M N) (ref14_Date_F M N) a0
theorem law14_date_F_ok (M N : Nat) : CK.OK Go.Proofs.Try.prog 13 (law14_date_ck (law14_date_F M N)) := law14_date_ck_ok fun a0 r h => law14_date_D_ok M _ _ (when_Date_F_ok M N) (ref14_Date_F_ok M N) a0 r h
abbrev law14_known_R : Type := Bool
def law14_known_enc (r : law14_known_R) : Res := (.one false [.d (DV.bool r)], [])
def law14_known_dec (r : Res) : Option law14_known_R := match r with
  | (.one false [.d (DV.bool x0)], []) => some x0
  | _ => none
theorem law14_known_dec_inv {r : Res} {x : law14_known_R} (h : law14_known_dec r = some x) : r = law14_known_enc x := by
  unfold law14_known_dec at h
  split at h
  · obtain rfl := Option.some.inj h; rfl
  · cases h
noncomputable def law14_known_ck (D : Option law14_known_R) : CK := fun avs bs => match avs, bs with
  | [], [] => CallK.via (D) law14_known_enc
  | _, _ => CallK.of none
theorem law14_known_ck_ok {D : Option law14_known_R} (h : ∀ r, D = some r → CallOK Go.Proofs.Try.prog 15 [] [] (law14_known_enc r)) : CK.OK Go.Proofs.Try.prog 15 (law14_known_ck D) := by
  intro avs bs r hr
  unfold law14_known_ck at hr
  split at hr
  · obtain ⟨x, hx, rfl⟩ := via_some hr
    exact h x hx
  · exact (none_some hr).elim
noncomputable def law14_known_T (G_when_Time : Int → Option when_Time_R) (G_when_Get : Int → List Int → List (List DV) → Option when_Get_R) (G_when_Is : Int → Option when_Is_R) : Tab := tabG Go.Proofs.Try.prog hints [(8, when_Time_ck G_when_Time), (14, when_Get_ck G_when_Get), (10, when_Is_ck G_when_Is)] noIter noMu noPrep
theorem law14_known_T_ok (G_when_Time : Int → Option when_Time_R) (G_when_Get : Int → List Int → List (List DV) → Option when_Get_R) (G_when_Is : Int → Option when_Is_R) (H_when_Time : CK.OK Go.Proofs.Try.prog 8 (when_Time_ck G_when_Time)) (H_when_Get : CK.OK Go.Proofs.Try.prog 14 (when_Get_ck G_when_Get)) (H_when_Is : CK.OK Go.Proofs.Try.prog 10 (when_Is_ck G_when_Is)) : TabOK Go.Proofs.Try.prog (law14_known_T G_when_Time G_when_Get G_when_Is) := by
  have hl : ∀ p ∈ ([(8, when_Time_ck G_when_Time), (14, when_Get_ck G_when_Get), (10, when_Is_ck G_when_Is)] : Cks), p.2.OK Go.Proofs.Try.prog p.1 := fun p hp => by
    simp only [List.mem_cons, List.not_mem_nil, or_false] at hp
    rcases hp with rfl | rfl | rfl <;> assumption
  exact tabG_ok mixed named hl noIter_ok
theorem law14_known_nodup (G_when_Time : Int → Option when_Time_R) (G_when_Get : Int → List Int → List (List DV) → Option when_Get_R) (G_when_Is : Int → Option when_Is_R) : nodupB ((blocksOf (bodyOf (law14_known_T G_when_Time G_when_Get G_when_Is) 15)).map (·.1)) = true := by kernel_rfl
def law14_known_hk0 (M : Nat) (G_when_Time : Int → Option when_Time_R) (G_when_Get : Int → List Int → List (List DV) → Option when_Get_R) (G_when_Is : Int → Option when_Is_R) : Hks := []
theorem law14_known_hk0_ok (M : Nat) (G_when_Time : Int → Option when_Time_R) (G_when_Get : Int → List Int → List (List DV) → Option when_Get_R) (G_when_Is : Int → Option when_Is_R) (_ : TabOK Go.Proofs.Try.prog (law14_known_T G_when_Time G_when_Get G_when_Is)) : HksOK Go.Proofs.Try.prog (ctxOf (law14_known_T G_when_Time G_when_Get G_when_Is) (evalK (law14_known_T G_when_Time G_when_Get G_when_Is) 20) 15) (bodyOf (law14_known_T G_when_Time G_when_Get G_when_Is) 15) (law14_known_hk0 M G_when_Time G_when_Get G_when_Is) := .nil
noncomputable def law14_known_B (M : Nat) (G_when_Time : Int → Option when_Time_R) (G_when_Get : Int → List Int → List (List DV) → Option when_Get_R) (G_when_Is : Int → Option when_Is_R) : Option Res :=
  bindG (G_when_Time (0)) (fun r1 => bindG (G_when_Get (r1.fst) (r1.snd.fst) (r1.snd.snd)) (fun r2 => bif eqI r1.fst 23 then (bif leN (List.length r1.snd.fst) 140737488355328 then (bif eqS (bytesOf r1.snd.fst) (bytesOf [55, 48, 48, 49, 48, 49, 48, 48, 48, 48, 48, 48, 90]) then (bif r2.snd then (bif eqI r2.fst 0 then (bindG (G_when_Is (0)) (fun r3 => some (AV.one false [CV.d (DV.bool r3)], []))) else (some (AV.one false [CV.d (DV.bool false)], []))) else (some (AV.one false [CV.d (DV.bool false)], []))) else (some (AV.one false [CV.d (DV.bool false)], []))) else (none)) else (some (AV.one false [CV.d (DV.bool false)], []))))
theorem law14_known_B_eq (M : Nat) (G_when_Time : Int → Option when_Time_R) (G_when_Get : Int → List Int → List (List DV) → Option when_Get_R) (G_when_Is : Int → Option when_Is_R) : evalBH (law14_known_T G_when_Time G_when_Get G_when_Is) (findHk (law14_known_hk0 M G_when_Time G_when_Get G_when_Is)) (evalK (law14_known_T G_when_Time G_when_Get G_when_Is) 20) 15 [] [] = law14_known_B M G_when_Time G_when_Get G_when_Is := by kernel_rfl
noncomputable def law14_known_D (M : Nat) (G_when_Time : Int → Option when_Time_R) (G_when_Get : Int → List Int → List (List DV) → Option when_Get_R) (G_when_Is : Int → Option when_Is_R) : Option law14_known_R := (law14_known_B M G_when_Time G_when_Get G_when_Is).bind law14_known_dec
theorem law14_known_D_ok (M : Nat) (G_when_Time : Int → Option when_Time_R) (G_when_Get : Int → List Int → List (List DV) → Option when_Get_R) (G_when_Is : Int → Option when_Is_R) (H_when_Time : CK.OK Go.Proofs.Try.prog 8 (when_Time_ck G_when_Time)) (H_when_Get : CK.OK Go.Proofs.Try.prog 14 (when_Get_ck G_when_Get)) (H_when_Is : CK.OK Go.Proofs.Try.prog 10 (when_Is_ck G_when_Is)) (r : law14_known_R) (h : law14_known_D M G_when_Time G_when_Get G_when_Is = some r) : CallOK Go.Proofs.Try.prog 15 [] [] (law14_known_enc r) := by
  obtain ⟨res, h1, h2⟩ := Option.bind_eq_some_iff.1 h
  have hT := law14_known_T_ok G_when_Time G_when_Get G_when_Is H_when_Time H_when_Get H_when_Is
  have this := evalG_ok hT (law14_known_hk0_ok M G_when_Time G_when_Get G_when_Is hT) (law14_known_nodup G_when_Time G_when_Get G_when_Is) (fun _ _ _ => rfl) ((law14_known_B_eq M G_when_Time G_when_Get G_when_Is).trans h1)
  rwa [law14_known_dec_inv h2] at this
noncomputable def law14_known_F (M N : Nat) : Option law14_known_R := law14_known_D M (when_Time_F M N) (when_Get_F M N) (when_Is_F M N)
theorem law14_known_F_ok (M N : Nat) : CK.OK Go.Proofs.Try.prog 15 (law14_known_ck (law14_known_F M N)) := law14_known_ck_ok fun r h => law14_known_D_ok M _ _ _ (when_Time_F_ok M N) (when_Get_F_ok M N) (when_Is_F_ok M N) r h
abbrev law14_WhenTimes_R : Type := Bool
def law14_WhenTimes_enc (r : law14_WhenTimes_R) : Res := (.one false [.d (DV.bool r)], [])
def law14_WhenTimes_dec (r : Res) : Option law14_WhenTimes_R := match r with
  | (.one false [.d (DV.bool x0)], []) => some x0
  | _ => none
theorem law14_WhenTimes_dec_inv {r : Res} {x : law14_WhenTimes_R} (h : law14_WhenTimes_dec r = some x) : r = law14_WhenTimes_enc x := by
  unfold law14_WhenTimes_dec at h
  split at h
  · obtain rfl := Option.some.inj h; rfl
  · cases h
noncomputable def law14_WhenTimes_ck (D : Int → Option law14_WhenTimes_R) : CK := fun avs bs => match avs, bs with
  | [.one false [.d (DV.int IntKind.i64 a0)]], [] => CallK.via (D (a0)) law14_WhenTimes_enc
  | _, _ => CallK.of none
theorem law14_WhenTimes_ck_ok {D : Int → Option law14_WhenTimes_R} (h : ∀ (a0 : Int), ∀ r, D (a0) = some r → CallOK Go.Proofs.Try.prog 3 [.one false [.d (DV.int IntKind.i64 a0)]] [] (law14_WhenTimes_enc r)) : CK.OK Go.Proofs.Try.prog 3 (law14_WhenTimes_ck D) := by
  intro avs bs r hr
  unfold law14_WhenTimes_ck at hr
  split at hr
  · obtain ⟨x, hx, rfl⟩ := via_some hr
    exact h _ x hx
  · exact (none_some hr).elim
noncomputable def law14_WhenTimes_T (G_when_Time : Int → Option when_Time_R) (G_ref14_Is : Int → Option ref14_Is_R) (G_when_Is : Int → Option when_Is_R) (G_ref14_Time : Int → Option ref14_Time_R) (G_ref12_Same : Int → List Int → List (List DV) → Int → List Int → List (List DV) → Option ref12_Same_R) (G_law14_date : Int → Option law14_date_R) (G_when_Get : Int → List Int → List (List DV) → Option when_Get_R) (G_law14_known : Option law14_known_R) : Tab := tabG Go.Proofs.Try.prog hints [(8, when_Time_ck G_when_Time), (9, ref14_Is_ck G_ref14_Is), (10, when_Is_ck G_when_Is), (12, ref14_Time_ck G_ref14_Time), (11, ref12_Same_ck G_ref12_Same), (13, law14_date_ck G_law14_date), (14, when_Get_ck G_when_Get), (15, law14_known_ck G_law14_known)] noIter noMu noPrep
theorem law14_WhenTimes_T_ok (G_when_Time : Int → Option when_Time_R) (G_ref14_Is : Int → Option ref14_Is_R) (G_when_Is : Int → Option when_Is_R) (G_ref14_Time : Int → Option ref14_Time_R) (G_ref12_Same : Int → List Int → List (List DV) → Int → List Int → List (List DV) → Option ref12_Same_R) (G_law14_date : Int → Option law14_date_R) (G_when_Get : Int → List Int → List (List DV) → Option when_Get_R) (G_law14_known : Option law14_known_R) (H_when_Time : CK.OK Go.Proofs.Try.prog 8 (when_Time_ck G_when_Time)) (H_ref14_Is : CK.OK Go.Proofs.Try.prog 9 (ref14_Is_ck G_ref14_Is)) (H_when_Is : CK.OK Go.Proofs.Try.prog 10 (when_Is_ck G_when_Is)) (H_ref14_Time : CK.OK Go.Proofs.Try.prog 12 (ref14_Time_ck G_ref14_Time)) (H_ref12_Same : CK.OK Go.Proofs.Try.prog 11 (ref12_Same_ck G_ref12_Same)) (H_law14_date : CK.OK Go.Proofs.Try.prog 13 (law14_date_ck G_law14_date)) (H_when_Get : CK.OK Go.Proofs.Try.prog 14 (when_Get_ck G_when_Get)) (H_law14_known : CK.OK Go.Proofs.Try.prog 15 (law14_known_ck G_law14_known)) : TabOK Go.Proofs.Try.prog (law14_WhenTimes_T G_when_Time G_ref14_Is G_when_Is G_ref14_Time G_ref12_Same G_law14_date G_when_Get G_law14_known) := by
  have hl : ∀ p ∈ ([(8, when_Time_ck G_when_Time), (9, ref14_Is_ck G_ref14_Is), (10, when_Is_ck G_when_Is), (12, ref14_Time_ck G_ref14_Time), (11, ref12_Same_ck G_ref12_Same), (13, law14_date_ck G_law14_date), (14, when_Get_ck G_when_Get), (15, law14_known_ck G_law14_known)] : Cks), p.2.OK Go.Proofs.Try.prog p.1 := fun p hp => by
    simp only [List.mem_cons, List.not_mem_nil, or_false] at hp
    rcases hp with rfl | rfl | rfl | rfl | rfl | rfl | rfl | rfl <;> assumption
  exact tabG_ok mixed named hl noIter_ok
theorem law14_WhenTimes_nodup (G_when_Time : Int → Option when_Time_R) (G_ref14_Is : Int → Option ref14_Is_R) (G_when_Is : Int → Option when_Is_R) (G_ref14_Time : Int → Option ref14_Time_R) (G_ref12_Same : Int → List Int → List (List DV) → Int → List Int → List (List DV) → Option ref12_Same_R) (G_law14_date : Int → Option law14_date_R) (G_when_Get : Int → List Int → List (List DV) → Option when_Get_R) (G_law14_known : Option law14_known_R) : nodupB ((blocksOf (bodyOf (law14_WhenTimes_T G_when_Time G_ref14_Is G_when_Is G_ref14_Time G_ref12_Same G_law14_date G_when_Get G_law14_known) 3)).map (·.1)) = true := by kernel_rfl
def law14_WhenTimes_hk0 (M : Nat) (G_when_Time : Int → Option when_Time_R) (G_ref14_Is : Int → Option ref14_Is_R) (G_when_Is : Int → Option when_Is_R) (G_ref14_Time : Int → Option ref14_Time_R) (G_ref12_Same : Int → List Int → List (List DV) → Int → List Int → List (List DV) → Option ref12_Same_R) (G_law14_date : Int → Option law14_date_R) (G_when_Get : Int → List Int → List (List DV) → Option when_Get_R) (G_law14_known : Option law14_known_R) : Hks := []
theorem law14_WhenTimes_hk0_ok (M : Nat) (G_when_Time : Int → Option when_Time_R) (G_ref14_Is : Int → Option ref14_Is_R) (G_when_Is : Int → Option when_Is_R) (G_ref14_Time : Int → Option ref14_Time_R) (G_ref12_Same : Int → List Int → List (List DV) → Int → List Int → List (List DV) → Option ref12_Same_R) (G_law14_date : Int → Option law14_date_R) (G_when_Get : Int → List Int → List (List DV) → Option when_Get_R) (G_law14_known : Option law14_known_R) (_ : TabOK Go.Proofs.Try.prog (law14_WhenTimes_T G_when_Time G_ref14_Is G_when_Is G_ref14_Time G_ref12_Same G_law14_date G_when_Get G_law14_known)) : HksOK Go.Proofs.Try.prog (ctxOf (law14_WhenTimes_T G_when_Time G_ref14_Is G_when_Is G_ref14_Time G_ref12_Same G_law14_date G_when_Get G_law14_known) (evalK (law14_WhenTimes_T G_when_Time G_ref14_Is G_when_Is G_ref14_Time G_ref12_Same G_law14_date G_when_Get G_law14_known) 20) 3) (bodyOf (law14_WhenTimes_T G_when_Time G_ref14_Is G_when_Is G_ref14_Time G_ref12_Same G_law14_date G_when_Get G_law14_known) 3) (law14_WhenTimes_hk0 M G_when_Time G_ref14_Is G_when_Is G_ref14_Time G_ref12_Same G_law14_date G_when_Get G_law14_known) := .nil
noncomputable def law14_WhenTimes_B (M : Nat) (G_when_Time : Int → Option when_Time_R) (G_ref14_Is : Int → Option ref14_Is_R) (G_when_Is : Int → Option when_Is_R) (G_ref14_Time : Int → Option ref14_Time_R) (G_ref12_Same : Int → List Int → List (List DV) → Int → List Int → List (List DV) → Option ref12_Same_R) (G_law14_date : Int → Option law14_date_R) (G_when_Get : Int → List Int → List (List DV) → Option when_Get_R) (G_law14_known : Option law14_known_R) (a0 : Int) : Option Res :=
  bindG (G_when_Time (a0)) (fun r1 => bindG (G_ref14_Is (a0)) (fun r2 => bindG (G_when_Is (a0)) (fun r3 => bif !r3 == r2 then (some (AV.one false [CV.d (DV.bool false)], [])) else (bindG (G_ref14_Time (a0)) (fun r4 => bindG (G_ref12_Same (r1.fst) (r1.snd.fst) (r1.snd.snd) (r4.fst) (r4.snd.fst) (r4.snd.snd)) (fun r5 => bif !r5 then (some (AV.one false [CV.d (DV.bool false)], [])) else (bindG (G_law14_date (a0)) (fun r6 => bif !r6 then (some (AV.one false [CV.d (DV.bool false)], [])) else (bindG (G_when_Get (r1.fst) (r1.snd.fst) (r1.snd.snd)) (fun r7 => bif r7.snd == r2 then (bif !r7.snd then (bindG (G_law14_known) (fun r8 => some (AV.one false [CV.d (DV.bool r8)], []))) else (bif eqI r7.fst a0 then (bindG (G_law14_known) (fun r9 => some (AV.one false [CV.d (DV.bool r9)], []))) else (some (AV.one false [CV.d (DV.bool false)], [])))) else (some (AV.one false [CV.d (DV.bool false)], []))))))))))))
theorem law14_WhenTimes_B_eq (M : Nat) (G_when_Time : Int → Option when_Time_R) (G_ref14_Is : Int → Option ref14_Is_R) (G_when_Is : Int → Option when_Is_R) (G_ref14_Time : Int → Option ref14_Time_R) (G_ref12_Same : Int → List Int → List (List DV) → Int → List Int → List (List DV) → Option ref12_Same_R) (G_law14_date : Int → Option law14_date_R) (G_when_Get : Int → List Int → List (List DV) → Option when_Get_R) (G_law14_known : Option law14_known_R) (a0 : Int) : evalBH (law14_WhenTimes_T G_when_Time G_ref14_Is G_when_Is G_ref14_Time G_ref12_Same G_law14_date G_when_Get G_law14_known) (findHk (law14_WhenTimes_hk0 M G_when_Time G_ref14_Is G_when_Is G_ref14_Time G_ref12_Same G_law14_date G_when_Get G_law14_known)) (evalK (law14_WhenTimes_T G_when_Time G_ref14_Is G_when_Is G_ref14_Time G_ref12_Same G_law14_date G_when_Get G_law14_known) 20) 3 [.one false [.d (DV.int IntKind.i64 a0)]] [] = law14_WhenTimes_B M G_when_Time G_ref14_Is G_when_Is G_ref14_Time G_ref12_Same G_law14_date G_when_Get G_law14_known a0 := by kernel_rfl
noncomputable def law14_WhenTimes_D (M : Nat) (G_when_Time : Int → Option when_Time_R) (G_ref14_Is : Int → Option ref14_Is_R) (G_when_Is : Int → Option when_Is_R) (G_ref14_Time : Int → Option ref14_Time_R) (G_ref12_Same : Int → List Int → List (List DV) → Int → List Int → List (List DV) → Option ref12_Same_R) (G_law14_date : Int → Option law14_date_R) (G_when_Get : Int → List Int → List (List DV) → Option when_Get_R) (G_law14_known : Option law14_known_R) (a0 : Int) : Option law14_WhenTimes_R := (law14_WhenTimes_B M G_when_Time G_ref14_Is G_when_Is G_ref14_Time G_ref12_Same G_law14_date G_when_Get G_law14_known a0).bind law14_WhenTimes_dec
theorem law14_WhenTimes_D_ok (M : Nat) (G_when_Time : Int → Option when_Time_R) (G_ref14_Is : Int → Option ref14_Is_R) (G_when_Is : Int → Option when_Is_R) (G_ref14_Time : Int → Option ref14_Time_R) (G_ref12_Same : Int → List Int → List (List DV) → Int → List Int → List (List DV) → Option ref12_Same_R) (G_law14_date : Int → Option law14_date_R) (G_when_Get : Int → List Int → List (List DV) → Option when_Get_R) (G_law14_known : Option law14_known_R) (H_when_Time : CK.OK Go.Proofs.Try.prog 8 (when_Time_ck G_when_Time)) (H_ref14_Is : CK.OK Go.Proofs.Try.prog 9 (ref14_Is_ck G_ref14_Is)) (H_when_Is : CK.OK Go.Proofs.Try.prog 10 (when_Is_ck G_when_Is)) (H_ref14_Time : CK.OK Go.Proofs.Try.prog 12 (ref14_Time_ck G_ref14_Time)) (H_ref12_Same : CK.OK Go.Proofs.Try.prog 11 (ref12_Same_ck G_ref12_Same)) (H_law14_date : CK.OK Go.Proofs.Try.prog 13 (law14_date_ck G_law14_date)) (H_when_Get : CK.OK Go.Proofs.Try.prog 14 (when_Get_ck G_when_Get)) (H_law14_known : CK.OK Go.Proofs.Try.prog 15 (law14_known_ck G_law14_known)) (a0 : Int) (r : law14_WhenTimes_R) (h : law14_WhenTimes_D M G_when_Time G_ref14_Is G_when_Is G_ref14_Time G_ref12_Same G_law14_date G_when_Get G_law14_known a0 = some r) : CallOK Go.Proofs.Try.prog 3 [.one false [.d (DV.int IntKind.i64 a0)]] [] (law14_WhenTimes_enc r) := by
  obtain ⟨res, h1, h2⟩ := Option.bind_eq_some_iff.1 h
  have hT := law14_WhenTimes_T_ok G_when_Time G_ref14_Is G_when_Is G_ref14_Time G_ref12_Same G_law14_date G_when_Get G_law14_known H_when_Time H_ref14_Is H_when_Is H_ref14_Time H_ref12_Same H_law14_date H_when_Get H_law14_known
  have this := evalG_ok hT (law14_WhenTimes_hk0_ok M G_when_Time G_ref14_Is G_when_Is G_ref14_Time G_ref12_Same G_law14_date G_when_Get G_law14_known hT) (law14_WhenTimes_nodup G_when_Time G_ref14_Is G_when_Is G_ref14_Time G_ref12_Same G_law14_date G_when_Get G_law14_known) (fun _ _ _ => rfl) ((law14_WhenTimes_B_eq M G_when_Time G_ref14_Is G_when_Is G_ref14_Time G_ref12_Same G_law14_date G_when_Get G_law14_known a0).trans h1)
  rwa [law14_WhenTimes_dec_inv h2] at this
noncomputable def law14_WhenTimes_F (M N : Nat) (a0 : Int) : Option law14_WhenTimes_R := law14_WhenTimes_D M (when_Time_F M N) (ref14_Is_F M N) (when_Is_F M N) (ref14_Time_F M N) (ref12_Same_F M N) (law14_date_F M N) (when_Get_F M N) (law14_known_F M N) a0
theorem law14_WhenTimes_F_ok (M N : Nat) : CK.OK Go.Proofs.Try.prog 3 (law14_WhenTimes_ck (law14_WhenTimes_F M N)) := law14_WhenTimes_ck_ok fun a0 r h => law14_WhenTimes_D_ok M _ _ _ _ _ _ _ _ (when_Time_F_ok M N) (ref14_Is_F_ok M N) (when_Is_F_ok M N) (ref14_Time_F_ok M N) (ref12_Same_F_ok M N) (law14_date_F_ok M N) (when_Get_F_ok M N) (law14_known_F_ok M N) a0 r h
abbrev law14_WhenGets_R : Type := Bool
def law14_WhenGets_enc (r : law14_WhenGets_R) : Res := (.one false [.d (DV.bool r)], [])
def law14_WhenGets_dec (r : Res) : Option law14_WhenGets_R := match r with
  | (.one false [.d (DV.bool x0)], []) => some x0
  | _ => none
theorem law14_WhenGets_dec_inv {r : Res} {x : law14_WhenGets_R} (h : law14_WhenGets_dec r = some x) : r = law14_WhenGets_enc x := by
  unfold law14_WhenGets_dec at h
  split at h
  · obtain rfl := Option.some.inj h; rfl
  · cases h
noncomputable def law14_WhenGets_ck (D : Int → List Int → List (List DV) → Option law14_WhenGets_R) : CK := fun avs bs => match avs, bs with
  | [.one true [.d (DV.int IntKind.u8 a0), .d (DV.ints IntKind.u8 a1), .d (DV.sl 3 a2)]], [] => CallK.via (D (a0) (a1) (a2)) law14_WhenGets_enc
  | _, _ => CallK.of none
theorem law14_WhenGets_ck_ok {D : Int → List Int → List (List DV) → Option law14_WhenGets_R} (h : ∀ (a0 : Int) (a1 : List Int) (a2 : List (List DV)), ∀ r, D (a0) (a1) (a2) = some r → CallOK Go.Proofs.Try.prog 4 [.one true [.d (DV.int IntKind.u8 a0), .d (DV.ints IntKind.u8 a1), .d (DV.sl 3 a2)]] [] (law14_WhenGets_enc r)) : CK.OK Go.Proofs.Try.prog 4 (law14_WhenGets_ck D) := by
  intro avs bs r hr
  unfold law14_WhenGets_ck at hr
  split at hr
  · obtain ⟨x, hx, rfl⟩ := via_some hr
    exact h _ _ _ x hx
  · exact (none_some hr).elim
noncomputable def law14_WhenGets_T (G_when_Get : Int → List Int → List (List DV) → Option when_Get_R) (G_ref14_Get : Int → List Int → List (List DV) → Option ref14_Get_R) (G_law14_known : Option law14_known_R) : Tab := tabG Go.Proofs.Try.prog hints [(14, when_Get_ck G_when_Get), (16, ref14_Get_ck G_ref14_Get), (15, law14_known_ck G_law14_known)] noIter noMu noPrep
theorem law14_WhenGets_T_ok (G_when_Get : Int → List Int → List (List DV) → Option when_Get_R) (G_ref14_Get : Int → List Int → List (List DV) → Option ref14_Get_R) (G_law14_known : Option law14_known_R) (H_when_Get : CK.OK Go.Proofs.Try.prog 14 (when_Get_ck G_when_Get)) (H_ref14_Get : CK.OK Go.Proofs.Try.prog 16 (ref14_Get_ck G_ref14_Get)) (H_law14_known : CK.OK Go.Proofs.Try.prog 15 (law14_known_ck G_law14_known)) : TabOK Go.Proofs.Try.prog (law14_WhenGets_T G_when_Get G_ref14_Get G_law14_known) := by
  have hl : ∀ p ∈ ([(14, when_Get_ck G_when_Get), (16, ref14_Get_ck G_ref14_Get), (15, law14_known_ck G_law14_known)] : Cks), p.2.OK Go.Proofs.Try.prog p.1 := fun p hp => by
    simp only [List.mem_cons, List.not_mem_nil, or_false] at hp
    rcases hp with rfl | rfl | rfl <;> assumption
  exact tabG_ok mixed named hl noIter_ok
theorem law14_WhenGets_nodup (G_when_Get : Int → List Int → List (List DV) → Option when_Get_R) (G_ref14_Get : Int → List Int → List (List DV) → Option ref14_Get_R) (G_law14_known : Option law14_known_R) : nodupB ((blocksOf (bodyOf (law14_WhenGets_T G_when_Get G_ref14_Get G_law14_known) 4)).map (·.1)) = true := by kernel_rfl
def law14_WhenGets_hk0 (M : Nat) (G_when_Get : Int → List Int → List (List DV) → Option when_Get_R) (G_ref14_Get : Int → List Int → List (List DV) → Option ref14_Get_R) (G_law14_known : Option law14_known_R) : Hks := []
theorem law14_WhenGets_hk0_ok (M : Nat) (G_when_Get : Int → List Int → List (List DV) → Option when_Get_R) (G_ref14_Get : Int → List Int → List (List DV) → Option ref14_Get_R) (G_law14_known : Option law14_known_R) (_ : TabOK Go.Proofs.Try.prog (law14_WhenGets_T G_when_Get G_ref14_Get G_law14_known)) : HksOK Go.Proofs.Try.prog (ctxOf (law14_WhenGets_T G_when_Get G_ref14_Get G_law14_known) (evalK (law14_WhenGets_T G_when_Get G_ref14_Get G_law14_known) 20) 4) (bodyOf (law14_WhenGets_T G_when_Get G_ref14_Get G_law14_known) 4) (law14_WhenGets_hk0 M G_when_Get G_ref14_Get G_law14_known) := .nil
noncomputable def law14_WhenGets_B (M : Nat) (G_when_Get : Int → List Int → List (List DV) → Option when_Get_R) (G_ref14_Get : Int → List Int → List (List DV) → Option ref14_Get_R) (G_law14_known : Option law14_known_R) (a0 : Int) (a1 : List Int) (a2 : List (List DV)) : Option Res :=
  bif ltI 100 ↑(List.length a1) then (some (AV.one false [CV.d (DV.bool true)], [])) else (bif ltI 5 ↑(List.length a2) then (some (AV.one false [CV.d (DV.bool true)], [])) else (bindG (G_when_Get (a0) (a1) (a2)) (fun r1 => bindG (G_ref14_Get (a0) (a1) (a2)) (fun r2 => bif eqI r1.fst r2.fst then (bif r1.snd == r2.snd then (bindG (G_law14_known) (fun r3 => some (AV.one false [CV.d (DV.bool r3)], []))) else (some (AV.one false [CV.d (DV.bool false)], []))) else (some (AV.one false [CV.d (DV.bool false)], []))))))
theorem law14_WhenGets_B_eq (M : Nat) (G_when_Get : Int → List Int → List (List DV) → Option when_Get_R) (G_ref14_Get : Int → List Int → List (List DV) → Option ref14_Get_R) (G_law14_known : Option law14_known_R) (a0 : Int) (a1 : List Int) (a2 : List (List DV)) : evalBH (law14_WhenGets_T G_when_Get G_ref14_Get G_law14_known) (findHk (law14_WhenGets_hk0 M G_when_Get G_ref14_Get G_law14_known)) (evalK (law14_WhenGets_T G_when_Get G_ref14_Get G_law14_known) 20) 4 [.one true [.d (DV.int IntKind.u8 a0), .d (DV.ints IntKind.u8 a1), .d (DV.sl 3 a2)]] [] = law14_WhenGets_B M G_when_Get G_ref14_Get G_law14_known a0 a1 a2 := by kernel_rfl
noncomputable def law14_WhenGets_D (M : Nat) (G_when_Get : Int → List Int → List (List DV) → Option when_Get_R) (G_ref14_Get : Int → List Int → List (List DV) → Option ref14_Get_R) (G_law14_known : Option law14_known_R) (a0 : Int) (a1 : List Int) (a2 : List (List DV)) : Option law14_WhenGets_R := (law14_WhenGets_B M G_when_Get G_ref14_Get G_law14_known a0 a1 a2).bind law14_WhenGets_dec
theorem law14_WhenGets_D_ok (M : Nat) (G_when_Get : Int → List Int → List (List DV) → Option when_Get_R) (G_ref14_Get : Int → List Int → List (List DV) → Option ref14_Get_R) (G_law14_known : Option law14_known_R) (H_when_Get : CK.OK Go.Proofs.Try.prog 14 (when_Get_ck G_when_Get)) (H_ref14_Get : CK.OK Go.Proofs.Try.prog 16 (ref14_Get_ck G_ref14_Get)) (H_law14_known : CK.OK Go.Proofs.Try.prog 15 (law14_known_ck G_law14_known)) (a0 : Int) (a1 : List Int) (a2 : List (List DV)) (r : law14_WhenGets_R) (h : law14_WhenGets_D M G_when_Get G_ref14_Get G_law14_known a0 a1 a2 = some r) : CallOK Go.Proofs.Try.prog 4 [.one true [.d (DV.int IntKind.u8 a0), .d (DV.ints IntKind.u8 a1), .d (DV.sl 3 a2)]] [] (law14_WhenGets_enc r) := by
  obtain ⟨res, h1, h2⟩ := Option.bind_eq_some_iff.1 h
  have hT := law14_WhenGets_T_ok G_when_Get G_ref14_Get G_law14_known H_when_Get H_ref14_Get H_law14_known
  have this := evalG_ok hT (law14_WhenGets_hk0_ok M G_when_Get G_ref14_Get G_law14_known hT) (law14_WhenGets_nodup G_when_Get G_ref14_Get G_law14_known) (fun _ _ _ => rfl) ((law14_WhenGets_B_eq M G_when_Get G_ref14_Get G_law14_known a0 a1 a2).trans h1)
  rwa [law14_WhenGets_dec_inv h2] at this
noncomputable def law14_WhenGets_F (M N : Nat) (a0 : Int) (a1 : List Int) (a2 : List (List DV)) : Option law14_WhenGets_R := law14_WhenGets_D M (when_Get_F M N) (ref14_Get_F M N) (law14_known_F M N) a0 a1 a2
theorem law14_WhenGets_F_ok (M N : Nat) : CK.OK Go.Proofs.Try.prog 4 (law14_WhenGets_ck (law14_WhenGets_F M N)) := law14_WhenGets_ck_ok fun a0 a1 a2 r h => law14_WhenGets_D_ok M _ _ _ (when_Get_F_ok M N) (ref14_Get_F_ok M N) (law14_known_F_ok M N) a0 a1 a2 r h
end Go.Proofs.Ythmdefgepnkgiaa.Eng
