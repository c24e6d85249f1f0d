/- when.numbers: pairs of bytes, one behind the other (slices.Chunk told by its rounds). Conditions: rows of at most a thousand. -/
import Derived.Test.YthmdefgepnkgiaaD4
import Derived.Test.YthmdefgepnkgiaaEIY
namespace Go.Proofs.Ythmdefgepnkgiaa.Eng
open Go
set_option maxRecDepth 100000
/-! ### slices.Chunk's iterator -/
noncomputable def chT : Tab := tabG Go.Proofs.Try.prog hints [] noIter noMu noPrep
noncomputable def chB : Code := loopAt (bodyOf chT 30) 0
def chS (l : List Int) (i : Int) : St := mkS [(0, .c (.yl 0)), (1, .c (.ep [.ints .u8 l])), (2, .c (.ep [.int .i64 2])), (4, .int .i64 i)] []
def chK (e : AX) (s' : St) : Option (List XS) := match e with | .exit i => bif Nat.beq i 0 then endY .norm s' else endY (.exit i) s' | e => endY e s'
theorem ch_step (M n : Nat) (l : List Int) (i : Int) : loopN (codeY (XY Go.Proofs.Try.prog 31) M (hints 30) chB) (n + 1) (chS l i) chK =
    bif ltI i ↑(List.length l) then (cutI (l) (some i) (none) (fun y1 => bif Nat.ble 1 1 && leI (IntKind.wrap IntKind.i64 (i + bif ltI (↑(List.length y1)) 2 then ↑(List.length y1) else 2)) (IntKind.wrap IntKind.i64 (i + bif ltI (↑(List.length y1)) 2 then ↑(List.length y1) else 2)) && leI (IntKind.wrap IntKind.i64 (i + bif ltI (↑(List.length y1)) 2 then ↑(List.length y1) else 2)) ↑(DV.count (DV.ints IntKind.u8 l)) then (cutI (l) (some i) (some (IntKind.wrap IntKind.i64 (i + bif ltI (↑(List.length y1)) 2 then ↑(List.length y1) else 2))) (fun y2 => joinY [(false, [DV.ints IntKind.u8 y2])] (some []) (loopN (codeY (XY Go.Proofs.Try.prog 31) M (hints 30) chB) n (chS l (IntKind.i64.wrap (i + 2))) chK))) else none)) else some [] := by kernel_rfl
def chunk2 : List Int → List (List Int)
  | a :: b :: r => [a, b] :: chunk2 r
  | [a] => [[a]]
  | [] => []
def chE (c : List Int) : List (Bool × List DV) := [(false, [.ints .u8 c])]
theorem ltI_true {a b : Int} (h : a < b) : ltI a b = true := by rw [ltI_eq]; exact decide_eq_true h
theorem ltI_false {a b : Int} (h : ¬ a < b) : ltI a b = false := by rw [ltI_eq]; exact decide_eq_false h
theorem leI_true {a b : Int} (h : a ≤ b) : leI a b = true := by rw [leI_eq]; exact decide_eq_true h
theorem leI_false {a b : Int} (h : ¬ a ≤ b) : leI a b = false := by rw [leI_eq]; exact decide_eq_false h
theorem wrap64 {x : Int} (h : -9223372036854775808 ≤ x) (h2 : x < 9223372036854775808) : IntKind.i64.wrap x = x := by rw [IntKind.wrap_i64]; omega
theorem ch_loop (M : Nat) (l : List Int) (hl : l.length ≤ 1000000) : ∀ (n j : Nat), j ≤ l.length + 1 → l.length - j + 2 ≤ 2 * n → loopN (codeY (XY Go.Proofs.Try.prog 31) M (hints 30) chB) n (chS l (j : Int)) chK = some ((chunk2 (l.drop j)).map chE)
  | 0, _, _, h => by omega
  | n + 1, j, hj, h => by
    rw [ch_step]
    by_cases hjl : j < l.length
    · rw [ltI_true (by omega), cond_true]
      unfold cutI
      simp only
      rw [leI_true (show (0 : Int) ≤ (j : Int) by omega), leI_true (show (j : Int) ≤ (l.length : Int) by omega)]
      simp only [cond_true]
      have hd : dropI l (j : Int) = l.drop j := rfl
      rw [hd, List.length_drop, wrap64 (x := (j : Int) + 2) (by omega) (by omega)]
      have e2 : ((j : Int) + 2) = ((j + 2 : Nat) : Int) := by omega
      rw [e2]
      by_cases h1 : l.length - j < 2
      · have h1' : l.length - j = 1 := by omega
        rw [ltI_true (show ((l.length - j : Nat) : Int) < 2 by omega), cond_true, wrap64 (x := (j : Int) + ((l.length - j : Nat) : Int)) (by omega) (by omega), leI_true (Int.le_refl _), leI_true (show (j : Int) + ((l.length - j : Nat) : Int) ≤ ((DV.count (DV.ints IntKind.u8 l) : Nat) : Int) by simp only [DV.count]; omega)]
        rw [leI_true (show (j : Int) ≤ (j : Int) + ((l.length - j : Nat) : Int) by omega), leI_true (show (j : Int) + ((l.length - j : Nat) : Int) ≤ (l.length : Int) by omega)]
        simp only [Nat.ble, Bool.and_self, cond_true, ge_iff_le]
        rw [ch_loop M l hl n (j + 2) (by omega) (by omega)]
        obtain ⟨a, ha⟩ : ∃ a, l.drop j = [a] := by
          match hq : l.drop j with
          | [] => have := congrArg List.length hq; simp at this; omega
          | [a] => exact ⟨a, rfl⟩
          | _ :: _ :: _ => have := congrArg List.length hq; simp at this; omega
        have h3 : l.drop (j + 2) = [] := List.drop_eq_nil_of_le (by omega)
        have h4 : dropI (takeI l ((j : Int) + ((l.length - j : Nat) : Int))) (j : Int) = [a] := by
          have : ((j : Int) + ((l.length - j : Nat) : Int)) = ((l.length : Nat) : Int) := by omega
          rw [this]
          show (l.take l.length).drop j = [a]
          rw [List.take_length, ha]
        rw [h3, h4, ha]
        rfl
      · rw [ltI_false (show ¬ ((l.length - j : Nat) : Int) < 2 by omega), cond_false, wrap64 (x := (j : Int) + 2) (by omega) (by omega), leI_true (Int.le_refl _), leI_true (show (j : Int) + 2 ≤ ((DV.count (DV.ints IntKind.u8 l) : Nat) : Int) by simp only [DV.count]; omega)]
        rw [leI_true (show (j : Int) ≤ (j : Int) + 2 by omega), leI_true (show (j : Int) + 2 ≤ (l.length : Int) by omega)]
        simp only [Nat.ble, Bool.and_self, cond_true, ge_iff_le]
        rw [ch_loop M l hl n (j + 2) (by omega) (by omega)]
        obtain ⟨a, b, r, ha⟩ : ∃ a b r, l.drop j = a :: b :: r := by
          match hq : l.drop j with
          | [] => have := congrArg List.length hq; simp at this; omega
          | [a] => have := congrArg List.length hq; simp at this; omega
          | a :: b :: r => exact ⟨a, b, r, rfl⟩
        have h3 : l.drop (j + 2) = r := by rw [← List.drop_drop, ha]; rfl
        have h4 : dropI (takeI l ((j : Int) + 2)) (j : Int) = [a, b] := by
          rw [e2]
          show (l.take (j + 2)).drop j = [a, b]
          rw [← List.take_drop, ha]; rfl
        rw [h3, h4, ha]
        rfl
    · rw [ltI_false (by omega), cond_false, List.drop_eq_nil_of_le (by omega)]
      rfl
theorem chunk_fn : Go.Proofs.Try.prog.funcs[30]? = some Go.Proofs.Try.f30 := by kernel_rfl
theorem ch_code (M : Nat) (l : List Int) : codeY (XY Go.Proofs.Try.prog 31) M (hints 30) (bodyOf chT 30) ⟨startT 0 (.c (.yl 0) :: [[.ints .u8 l], [.int .i64 2]].map fun r => .c (.ep r)), startB 0 []⟩ endY = loopN (codeY (XY Go.Proofs.Try.prog 31) M (hints 30) chB) M (chS l 0) chK := by kernel_rfl
noncomputable def itC (f : FuncId) (rows : List (List DV)) : Option (List (List (Bool × List DV))) :=
  bif Nat.beq f 30 then match rows with | [[.ints .u8 l], [.int .i64 n]] => bif eqI n 2 && Nat.ble l.length 1000000 then some ((chunk2 l).map chE) else none | _ => none else none
theorem itC_ok (f : FuncId) (rows : List (List DV)) (xs : List (List (Bool × List DV))) (h : itC f rows = some xs) : IterOK Go.Proofs.Try.prog f rows xs := by
  unfold itC at h
  obtain ⟨hb, h2⟩ := b_true h
  clear h
  obtain rfl := beq_true hb
  split at h2
  case h_2 => cases h2
  rename_i l n
  obtain ⟨hc, h3⟩ := b_true h2
  clear h2
  simp only [Bool.and_eq_true, eqI, beq_iff_eq] at hc
  obtain ⟨rfl, hl⟩ := hc
  have hl := ble_true hl
  obtain rfl := Option.some.inj h3
  refine iterY_ok (hint := hints 30) (fuel := 1000000) mixed chunk_fn rfl (c := bodyOf chT 30) (by kernel_rfl) (by kernel_rfl) rfl (Nat.le_of_ble_eq_true rfl) ?_
  rw [show Go.Proofs.Try.f30.ntmps = 31 from rfl]
  exact (ch_code 1000000 l).trans (ch_loop 1000000 l hl 1000000 0 (by omega) (by omega))
/-! ### The rounds of when.numbers -/
noncomputable def when_numbers_T : Tab := tabG Go.Proofs.Try.prog hints [] itC noMu noPrep
theorem when_numbers_T_ok : TabOK Go.Proofs.Try.prog when_numbers_T := tabG_ok mixed named (fun _ h => by cases h) itC_ok
noncomputable def rfC : Code := lookB (blocksOf (bodyOf when_numbers_T 21)) 0
noncomputable def rfA : Code := match rfC with | .rangeFunc _ _ a _ => a | _ => .skip
noncomputable def rfB : Code := match rfC with | .rangeFunc _ _ _ b => b | _ => .skip
def nuS (l : List Int) : St := mkS [(2, .c (.ptr 2 0 none)), (3, .c (.ptr 3 0 none)), (4, .c (.ptr 4 0 none)), (11, .c (.clo 30 [[.ints .u8 l], [.int .i64 2]]))] [(2, [.own 128 (.ints .i64 [])]), (3, [.d (.bool false)]), (4, [.own 256 (.ints .i64 [])])]
def nuR (c : List Int) : BX := mkB [(2000002, [.own 128 (.ints .i64 [])]), (2000003, [.d (.bool false)]), (2000004, [.own 256 (.ints .i64 c)])] fun _ => none
def nuX (c : List Int) : BX := mkB [(2000002, [.own 0 (.ints .i64 [])]), (2000003, [.d (.bool false)]), (2000004, [.own 256 (.ints .i64 c)])] fun _ => none
noncomputable abbrev nuX0 : Ctx := ctxOf when_numbers_T (evalK when_numbers_T 20) 21
noncomputable abbrev nuF {R : Type} (l : List Int) (xs : List (List (Bool × List DV))) (bx : BX) (K : AX → St → Option R) : Option R :=
  roundsF (code nuX0 when_numbers_T.fuel (hints 21) rfA) (code nuX0 when_numbers_T.fuel (hints 21) rfB) [12] (renTm (nuS l).tm) xs bx K
def nuD (x y : Int) : Int := IntKind.wrap IntKind.i64 (IntKind.wrap IntKind.i64 (IntKind.wrap IntKind.i64 (IntKind.wrap IntKind.u8 (x - 48)) * 10) + IntKind.wrap IntKind.i64 (IntKind.wrap IntKind.u8 (y - 48)))
def nu1 {R : Type} (k : List Int → Option R) (rc : List Int → Option R) (p c : List Int) : Option R :=
  nth p 0 fun x1 => bif ltI x1 48 then k c else nth p 0 fun x2 => bif ltI 57 x2 then k c else nth p 1 fun x3 => bif ltI x3 48 then k c else nth p 1 fun x4 => bif ltI 57 x4 then k c else
    nth p 0 fun x5 => nth p 1 fun x6 => bif leN ((DV.count (DV.ints IntKind.i64 c) + DV.count (DV.ints IntKind.i64 [nuD x5 x6])) * 8) 140737488355328 then rc (c ++ [nuD x5 x6]) else none
theorem nu_step {R : Type} (l p c : List Int) (xs : List (List (Bool × List DV))) (K : AX → St → Option R) : nuF l (chE p :: xs) (nuR c) K = nu1 (fun c => K .ret ⟨renTm (nuS l).tm, nuX c⟩) (fun c => nuF l xs (nuR c) K) p c := by kernel_rfl
theorem nu_first {R : Type} (l p : List Int) (xs : List (List (Bool × List DV))) (K : AX → St → Option R) : nuF l (chE p :: xs) (renBx (nuS l).bx) K = nu1 (fun c => K .ret ⟨renTm (nuS l).tm, nuX c⟩) (fun c => nuF l xs (nuR c) K) p [] := by kernel_rfl
def nuL {R : Type} (k0 k1 : List Int → Option R) : List (List Int) → List Int → Option R
  | [], c => k0 c
  | p :: r, c => nu1 k1 (nuL k0 k1 r) p c
theorem nu_loop {R : Type} (l : List Int) (K : AX → St → Option R) : ∀ (xs : List (List Int)) (c : List Int), nuF l (xs.map chE) (nuR c) K = nuL (fun c => K .norm ⟨renTm (nuS l).tm, nuR c⟩) (fun c => K .ret ⟨renTm (nuS l).tm, nuX c⟩) xs c
  | [], _ => rfl
  | p :: xs, c => by
    rw [List.map_cons, nu_step, show (fun c => nuF l (xs.map chE) (nuR c) K) = nuL (fun c => K .norm ⟨renTm (nuS l).tm, nuR c⟩) (fun c => K .ret ⟨renTm (nuS l).tm, nuX c⟩) xs from funext fun c => nu_loop l K xs c]
    rfl
/-- What is kept behind the rounds. -/
noncomputable def nuO : AX → Option (List Nat × List Nat) := houtOf ([2, 3, 4], [2000002, 2000003, 2000004]) [] ([2, 3], [2000002, 2000003, 2000004])
def nuN1 (c : List Int) : St := mkS [(2, .c (.ptr 2000002 0 none)), (3, .c (.ptr 2000003 0 none)), (4, .c (.ptr 2000004 0 none))] [(2000002, [.own 128 (.ints .i64 [])]), (2000003, [.d (.bool false)]), (2000004, [.own 256 (.ints .i64 c)])]
def nuN2 (c : List Int) : St := mkS [(2, .c (.ptr 2000002 0 none)), (3, .c (.ptr 2000003 0 none))] [(2000002, [.own 0 (.ints .i64 [])]), (2000003, [.d (.bool false)]), (2000004, [.own 256 (.ints .i64 c)])]
theorem nu_keep0 {R : Type} (l : List Int) (K : St → Option R) : keep (nuO .norm) ⟨renTm (nuS l).tm, renBx (nuS l).bx⟩ K = K (nuN1 []) := by kernel_rfl
theorem nu_keep1 {R : Type} (l c : List Int) (K : St → Option R) : keep (nuO .norm) ⟨renTm (nuS l).tm, nuR c⟩ K = K (nuN1 c) := by kernel_rfl
theorem nu_keep2 {R : Type} (l c : List Int) (K : St → Option R) : keep (nuO .ret) ⟨renTm (nuS l).tm, nuX c⟩ K = K (nuN2 c) := by kernel_rfl
theorem nu_code {R : Type} (l : List Int) (K : AX → St → Option R) : code nuX0 when_numbers_T.fuel (hints 21) rfC (nuS l) K = match itC 30 [[.ints .u8 l], [.int .i64 2]] with | some xs => nuF l xs (renBx (nuS l).bx) K | none => none := by kernel_rfl
def nuH : HookS := ⟨fun s K => match s.tm 2, s.tm 3, s.tm 4, s.tm 11, s.bx 2, s.bx 3, s.bx 4 with
  | .one false [.ptr 2 0 none], .one false [.ptr 3 0 none], .one false [.ptr 4 0 none], .one false [.clo f [[.ints .u8 l], [.int .i64 n]]], some [.own t0 (.ints .i64 [])], some [.d (.bool false)], some [.own t1 (.ints .i64 [])] =>
    bif Nat.beq f 30 && Nat.beq t0 128 && Nat.beq t1 256 && eqI n 2 then bif Nat.ble l.length 1000000 then nuL (fun c => K .norm (nuN1 c)) (fun c => K .ret (nuN2 c)) (chunk2 l) [] else none else none
  | _, _, _, _, _, _, _ => none⟩
noncomputable def nuHk : Hks := [(0, nuH)]
theorem nu_all {R : Type} (l : List Int) (hl : l.length ≤ 1000000) (K : AX → St → Option R) : code nuX0 when_numbers_T.fuel (hints 21) rfC (nuS l) (fun ax s' => match ax with | .exit j => bif Nat.beq j 0 then keep (nuO .norm) s' fun s0 => K .norm s0 else keep (nuO (.exit j)) s' fun s0 => K (.exit j) s0 | ax => keep (nuO ax) s' fun s0 => K ax s0) = nuL (fun c => K .norm (nuN1 c)) (fun c => K .ret (nuN2 c)) (chunk2 l) [] := by
  have hi : itC 30 [[.ints .u8 l], [.int .i64 2]] = some ((chunk2 l).map chE) := by
    show (bif (true && Nat.ble l.length 1000000) then _ else _) = _
    rw [Nat.ble_eq_true_of_le hl]; rfl
  rw [nu_code, hi]
  show nuF l ((chunk2 l).map chE) (renBx (nuS l).bx) _ = _
  cases chunk2 l with
  | nil => exact nu_keep0 l (fun s0 => K .norm s0)
  | cons p xs =>
    rw [List.map_cons, nu_first]
    have h1 : (fun c => nuF l (xs.map chE) (nuR c) fun ax s' => match ax with | .exit j => bif Nat.beq j 0 then keep (nuO .norm) s' fun s0 => K .norm s0 else keep (nuO (.exit j)) s' fun s0 => K (.exit j) s0 | ax => keep (nuO ax) s' fun s0 => K ax s0) = nuL (fun c => K .norm (nuN1 c)) (fun c => K .ret (nuN2 c)) xs := by
      funext c
      rw [nu_loop]
      show nuL (fun c => keep (nuO .norm) ⟨renTm (nuS l).tm, nuR c⟩ fun s0 => K .norm s0) (fun c => keep (nuO .ret) ⟨renTm (nuS l).tm, nuX c⟩ fun s0 => K .ret s0) xs c = _
      have e1 : (fun c => keep (nuO .norm) ⟨renTm (nuS l).tm, nuR c⟩ fun s0 => K .norm s0) = fun c => K .norm (nuN1 c) := funext fun c => nu_keep1 l c _
      have e2 : (fun c => keep (nuO .ret) ⟨renTm (nuS l).tm, nuX c⟩ fun s0 => K .ret s0) = fun c => K .ret (nuN2 c) := funext fun c => nu_keep2 l c _
      rw [e1, e2]
    have e2 : (fun c => keep (nuO .ret) ⟨renTm (nuS l).tm, nuX c⟩ fun s0 => K .ret s0) = fun c => K .ret (nuN2 c) := funext fun c => nu_keep2 l c _
    show nu1 (fun c => keep (nuO .ret) ⟨renTm (nuS l).tm, nuX c⟩ fun s0 => K .ret s0) _ p [] = _
    rw [h1, e2]
    rfl
theorem range_hook {P : Program} {X : Ctx} (hX : XOK P X) (hI : XI P X) (hmix : P.follows .mixedOrders = true) {fuel : Nat} {hint : Nat → Option (List Nat × List Nat)} {i : Nat} {hout : AX → Option (List Nat × List Nat)} {b : Code} (hb : (match b with | .rangeFunc _ _ _ _ => true | _ => false) = true) {g : HookS}
    (hF : ∀ {R : Type} (s : St) (K : AX → St → Option R) (r : R), g.go s K = some r → ∃ s0, Weak s s0 ∧ code X fuel hint b s0 (fun ax s' => match ax with | .exit j => bif Nat.beq j i then keep (hout .norm) s' fun s0 => K .norm s0 else keep (hout (.exit j)) s' fun s0 => K (.exit j) s0 | ax => keep (hout ax) s' fun s0 => K ax s0) = some r) : PartAll P X g (.block i b) := by
  refine ⟨fun R r => block_ok (hk := fun _ => none) (fuel := fuel) (hint := hint) (hout := hout) hX hI hmix (fun p hp g hg => by cases hg) fun s K e => ?_⟩
  obtain ⟨s0, h1, h2⟩ := hF s K r e
  cases b <;> first | (cases hb; done) | exact ⟨s0, h1, h2⟩
theorem nuHk_ok : HksOK Go.Proofs.Try.prog nuX0 (bodyOf when_numbers_T 21) nuHk := by
  refine .cons (range_hook (fuel := when_numbers_T.fuel) (hint := hints 21) (hout := nuO) (ctx_ok when_numbers_T_ok _).1 (ctx_ok when_numbers_T_ok _).2 mixed (by kernel_rfl) fun s K r hs => ?_) .nil
  have hs : nuH.go s K = some r := hs
  simp only [nuH] at hs
  split at hs
  case h_2 => cases hs
  rename_i f l n t0 t1 h2 h3 h4 h11 b2 b3 b4
  obtain ⟨hc, hs2⟩ := b_true hs
  clear hs
  obtain ⟨hl, hs3⟩ := b_true hs2
  clear hs2
  simp only [Bool.and_eq_true, eqI, beq_iff_eq] at hc
  obtain ⟨⟨⟨hf, ht0⟩, ht1⟩, rfl⟩ := hc
  obtain rfl := beq_true hf
  obtain rfl := beq_true ht0
  obtain rfl := beq_true ht1
  exact ⟨nuS l, mkS_weak _ _ (by simp [*]) (by simp [*]), (nu_all l (ble_true hl) K).trans hs3⟩
theorem nu_nodup : nodupB ((blocksOf (bodyOf when_numbers_T 21)).map (·.1)) = true := by kernel_rfl
noncomputable def when_numbers_B (a0 : List Int) : Option Res :=
  bif !eqI (Int.tmod (a0.length : Int) 2) 0 then some (.tup [(false, [.own 0 (.ints .i64 [])]), (false, [.d (.bool false)])], []) else
    bif Nat.ble a0.length 1000000 then nuL (fun c => some (.tup [(false, [.own 0 (.ints .i64 c)]), (false, [.d (.bool true)])], [])) (fun _ => some (.tup [(false, [.own 0 (.ints .i64 [])]), (false, [.d (.bool false)])], [])) (chunk2 a0) [] else none
theorem when_numbers_B_eq (a0 : List Int) : evalBH when_numbers_T (findHk nuHk) (evalK when_numbers_T 20) 21 [.one false [.d (.ints .u8 a0)]] [] = when_numbers_B a0 := by kernel_rfl
noncomputable def when_numbers_D (a0 : List Int) : Option when_numbers_R := (when_numbers_B a0).bind when_numbers_dec
theorem when_numbers_D_ok (a0 : List Int) (r : when_numbers_R) (h : when_numbers_D a0 = some r) : CallOK Go.Proofs.Try.prog 21 [.one false [.d (.ints .u8 a0)]] [] (when_numbers_enc r) := by
  obtain ⟨res, h1, h2⟩ := Option.bind_eq_some_iff.1 h
  have this := evalG_ok when_numbers_T_ok nuHk_ok nu_nodup (fun _ _ _ => rfl) ((when_numbers_B_eq a0).trans h1)
  rwa [when_numbers_dec_inv h2] at this
noncomputable def when_numbers_F (M N : Nat) (a0 : List Int) : Option when_numbers_R := when_numbers_D a0
theorem when_numbers_F_ok (M N : Nat) : CK.OK Go.Proofs.Try.prog 21 (when_numbers_ck (when_numbers_F M N)) := when_numbers_ck_ok fun a0 r h => when_numbers_D_ok a0 r h
end Go.Proofs.Ythmdefgepnkgiaa.Eng
